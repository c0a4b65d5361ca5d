/- Texts of this seat, laid together: Ht Mgf. -/
import Derived.Test.YtggnccafmadacaaGreatDoorBu17
import Derived.Test.YtggnccafmadacaaGreatDoorBu27
import Derived.Test.YtggnccafmadacaaGreatDoorBu26
/- The walk of the stream's function that draws a history that is right. -/
namespace Go.Proofs.YtggnccafmadacaaGreatDoor
set_option linter.unusedVariables false
set_option linter.unusedSimpArgs false
open Go.RowKit Go.Sort

def RightHPost (w : World) (g N : Nat) (e : Ending) (w' : World) : Prop :=
  ∃ (SA TA : Option Addr) (c d : Nat) (segs : List (List UInt8)) (atts : List Att), e = .returned (.agg #[.slice SA segs.length c, .slice TA atts.length d]) ∧ Hist w' w.heap.size SA TA segs atts ∧ segs.length ≤ c ∧ segs.length ≤ 4 ∧ atts.length ≤ 7 ∧ (∀ i (h : i < atts.length), atts[i].2.length ≤ 4) ∧ HistOk segs atts ∧ Str w' g N ∧ w.grownBy w' (some g)
theorem Hist.two {w : World} {lo r : Nat} {SA TA : Option Addr} {segs : List (List UInt8)} {atts : List Att} {t : TypeId} {cs : Array Value} (h : Hist w lo SA TA segs atts) (hr : Blk w r t cs) (hlo : r < lo) (u v : Value) : Hist ((w.setCell ⟨r, 0, none⟩ u).setCell ⟨r, 1, none⟩ v) lo SA TA segs atts :=
  h.stream (g := r) (grown_set (grown_set (World.grownBy.refl w _) 0 u) 1 v) hlo
theorem aa_ok : HistOk [[97, 97]] [] := ⟨by decide, by decide, by decide, by decide, by decide, fun i h => by simp at h, fun i h => by simp at h, fun i h => by simp at h⟩
set_option maxHeartbeats 4000000 in
theorem rightHistory_any (g N : Nat) (w : World) (hs : Str w g N) (hN : N < 4611686018425000000) :
    Calls Tryz.prog 44 #[.pointer (some ⟨g, 0, none⟩)] w (RightHPost w g (N + 3000)) := by
  have hlt := hs.lt
  go_enter Tryz.func44, Tryz.ntmps44
  go_wp2_with fail
  have hs0 := hs.alloc (.cells #[.slice none 0 0, .slice none 0 0] 56)
  have hres : Blk (w.alloc (.cells #[.slice none 0 0, .slice none 0 0] 56)) w.heap.size 56 #[.slice none 0 0, .slice none 0 0] := Blk.new _ _ _
  have hgr0 : w.grownBy (w.alloc (.cells #[.slice none 0 0, .slice none 0 0] 56)) (some g) := World.grownBy_alloc _ _ _
  generalize w.alloc (.cells #[.slice none 0 0, .slice none 0 0] 56) = w0 at *
  go_loopw [4] (fun i wr => ∃ k : Nat, k ≤ 8 ∧ i = .int .i64 k ∧ Blk wr w.heap.size 56 #[.slice none 0 0, .slice none 0 0] ∧ Str wr g (N + 320 * k) ∧ w.grownBy wr (some g)) (fun i _ => 8 - (intOf i).toNat)
  case atStart => exact ⟨0, by omega, rfl, hres, hs0, hgr0⟩
  case round =>
    clear hres hs0 hgr0
    obtain ⟨k, hk, rfl, hres, hsr, hgr⟩ := hrel
    have hzr := hres.lt
    by_cases hk8 : k < 8
    · have d8 : decide ((k : Int) < 8) = true := by simp; omega
      go_wp2_with fail
      refine (history_any g _ _ hsr (by omega)).mono ?_
      rintro e w1 ⟨SA, TA, c, d, segs, atts, rfl, hh, hc, n1, n4, hm, hl, hsl, hs1, hg1⟩
      have hz9 : HistSz segs atts c := ⟨hc, by omega, by omega, fun i h => by have := hl i h; omega, fun s hs => by have := hsl s hs; omega⟩
      have hres1 := hres.stream hg1 hlt
      have hgr1 := grown_trans' hgr hg1
      have HL := Lib.hid hl
      clear hl hsl hres hsr hg1
      go_wp2_with fail
      have hh1 := hh.alloc (.cells #[.slice SA segs.length c, .slice TA atts.length d] 56)
      have hk1 : Blk (w1.alloc (.cells #[.slice SA segs.length c, .slice TA atts.length d] 56)) w1.heap.size 56 #[.slice SA segs.length c, .slice TA atts.length d] := Blk.new _ _ _
      have hres1 := hres1.alloc (.cells #[.slice SA segs.length c, .slice TA atts.length d] 56)
      have hs1 := hs1.alloc (.cells #[.slice SA segs.length c, .slice TA atts.length d] 56)
      have hgr1 := grown_alloc hgr1 (.cells #[.slice SA segs.length c, .slice TA atts.length d] 56)
      generalize w1.alloc (.cells #[.slice SA segs.length c, .slice TA atts.length d] 56) = w2 at *
      generalize w1.heap.size = bx at *
      refine (historyFault_any _ _ _ _ _ segs atts _ hh1 hz9.hc hz9.h9 hz9.h8 hz9.h7 hz9.h6).mono ?_
      rintro e w3 ⟨rfl, hb3⟩
      have hh3 := hh1.below hb3
      have hk3 := hk1.below hb3
      have hres3 := hres1.below hb3
      have hs3 := hs1.keep hb3
      have hgr3 := grown_trans' hgr1 (grown_of_below hb3 _)
      clear hh hh1 hk1 hres1 hs1 hgr1 hb3
      by_cases hf : histF segs atts = 0
      · have HO := Lib.hid (histF_ok hf)
        rw [hf]
        clear hf
        obtain ⟨q0, q1⟩ := hk3.two_
        have qz := hk3.lt
        obtain ⟨r0, r1⟩ := hres3.two_
        have rz := hres3.lt
        have rf0 := hres3.thaw 0
        have rf1 := hres3.thaw 1
        obtain ⟨z0, z1, z2⟩ := hres3.two2 (.slice SA segs.length c) (.slice TA atts.length d)
        have hgs := grown_set_new (grown_set_new hgr3 (p := ⟨w.heap.size, 0, none⟩) (by simp) (.slice SA segs.length c)) (p := ⟨w.heap.size, 1, none⟩) (by simp) (.slice TA atts.length d)
        have hss := (hs3.set (p := ⟨w.heap.size, 0, none⟩) hlt (.slice SA segs.length c)).set (p := ⟨w.heap.size, 1, none⟩) hlt (.slice TA atts.length d)
        have hht := hh3.two hres3 (by omega) (.slice SA segs.length c) (.slice TA atts.length d)
        have hzz := hgr.size
        have HHT := Lib.hid hht
        have HGS := Lib.hid hgs
        have HSS := Lib.hid hss
        clear hht hgs hss hh3 hk3 hres3 hs3 hgr3
        go_wp2_with fail
        refine bodyPost_ret (v := .agg #[.slice SA segs.length c, .slice TA atts.length d]) (by simp [results, Tryz.results44, go_sem, z0, z1, z2]) rfl ?_
        exact ⟨SA, TA, c, d, segs, atts, rfl, HHT.out.weak hzz, hc, n4, hm, HL.out, HO.out, HSS.out.more (by omega), HGS.out⟩
      · have d5 : (histF segs atts == 0) = false := by simpa using hf
        clear hf
        generalize histF segs atts = ef at *
        obtain ⟨q0, q1⟩ := hk3.two_
        have qz := hk3.lt
        go_wp2_with fail
        go_roundw
        case rel => exact ⟨k + 1, by omega, by go_num, hres3, hs3.more (by omega), hgr3⟩
        case measure => simp [intOf]; omega
    · have d8 : decide ((k : Int) < 8) = false := by simp; omega
      obtain ⟨r0, r1⟩ := hres.two_
      have rz := hres.lt
      have rf0 := hres.thaw 0
      have rf1 := hres.thaw 1
      obtain ⟨z0, z1, z2⟩ := hres.two2 (.slice (some ⟨wr.heap.size, 0, none⟩) 1 1) (.slice none 0 0)
      have z0 := cell_al z0 (.cells #[.string ⟨#[97, 97]⟩] 9)
      have z1 := cell_al z1 (.cells #[.string ⟨#[97, 97]⟩] 9)
      have hgs := grown_alloc (grown_set_new (grown_set_new hgr (p := ⟨w.heap.size, 0, none⟩) (by simp) (.slice (some ⟨wr.heap.size, 0, none⟩) 1 1)) (p := ⟨w.heap.size, 1, none⟩) (by simp) (.slice none 0 0)) (.cells #[.string ⟨#[97, 97]⟩] 9)
      have hss := ((hsr.set (p := ⟨w.heap.size, 0, none⟩) hlt (.slice (some ⟨wr.heap.size, 0, none⟩) 1 1)).set (p := ⟨w.heap.size, 1, none⟩) hlt (.slice none 0 0)).alloc (.cells #[.string ⟨#[97, 97]⟩] 9)
      have hlit : Blk (((wr.setCell ⟨w.heap.size, 0, none⟩ (.slice (some ⟨wr.heap.size, 0, none⟩) 1 1)).setCell ⟨w.heap.size, 1, none⟩ (.slice none 0 0)).alloc (.cells #[.string ⟨#[97, 97]⟩] 9)) wr.heap.size 9 #[.string ⟨#[97, 97]⟩] := by
        have := Blk.new ((wr.setCell ⟨w.heap.size, 0, none⟩ (.slice (some ⟨wr.heap.size, 0, none⟩) 1 1)).setCell ⟨w.heap.size, 1, none⟩ (.slice none 0 0)) 9 #[.string ⟨#[97, 97]⟩]
        simpa using this
      have hrow : Hist (((wr.setCell ⟨w.heap.size, 0, none⟩ (.slice (some ⟨wr.heap.size, 0, none⟩) 1 1)).setCell ⟨w.heap.size, 1, none⟩ (.slice none 0 0)).alloc (.cells #[.string ⟨#[97, 97]⟩] 9)) w.heap.size (some ⟨wr.heap.size, 0, none⟩) none [[97, 97]] [] := ⟨Row.lit (n := 1) (size := 1) hlit (by omega) rfl, [], Row.none_ _ _ _ _, fun i h => by simp at h⟩
      have Z := Lib.hid (And.intro z0 (And.intro z1 z2))
      have HHT := Lib.hid hrow
      have HGS := Lib.hid hgs
      have HSS := Lib.hid hss
      clear hgs hss hrow hlit z0 z1 z2
      go_wp2_with fail
      obtain ⟨z0, z1, z2⟩ := Z.out
      refine bodyPost_ret (v := .agg #[.slice (some ⟨wr.heap.size, 0, none⟩) 1 1, .slice none 0 0]) (by simp only [results, Tryz.results44, go_sem]; simp [go_sem, z0, z1]) rfl ?_
      exact ⟨some ⟨wr.heap.size, 0, none⟩, none, 1, 0, [[97, 97]], [], rfl, HHT.out, by simp, by simp, by simp, fun i h => by simp at h, aa_ok, HSS.out.more (by omega), HGS.out⟩
end Go.Proofs.YtggnccafmadacaaGreatDoor
/- The walk of segment.Merge where a history is wrong, or the segments differ. -/
namespace Go.Proofs.YtggnccafmadacaaGreatDoor
set_option linter.unusedVariables false
set_option linter.unusedSimpArgs false
open Go.RowKit Go.Sort

/-- The error of two histories that cannot be merged. -/
def mergeE (sa : List (List UInt8)) (us : List Att) (sb : List (List UInt8)) (bs : List Att) : Int := if firstE [histF sa us, histF sb bs] ≠ 0 then firstE [histF sa us, histF sb bs] else 13
set_option maxHeartbeats 8000000 in
set_option maxRecDepth 100000 in
theorem Merge_bad (SA TA SB TB : Option Addr) (c d c' d' lo lo' : Nat) (sa sb : List (List UInt8)) (us bs : List Att) (w : World) (hA : Hist w lo SA TA sa us) (hB : Hist w lo' SB TB sb bs) (zA : HistSz sa us c) (zB : HistSz sb bs c')
    (hbad : firstE [histF sa us, histF sb bs] ≠ 0 ∨ sa ≠ sb) :
    Calls Tryz.prog 30 #[.agg #[.slice SA sa.length c, .slice TA us.length d], .agg #[.slice SB sb.length c', .slice TB bs.length d']] w fun e w' => e = .returned (.tuple #[.agg #[.slice none 0 0, .slice none 0 0], .int .i64 (mergeE sa us sb bs)]) ∧ Below w.heap.size w w' := by
  have hsa := zA.h9
  have hsb := zB.h9
  have ME : Hid ((firstE [histF sa us, histF sb bs] ≠ 0 → mergeE sa us sb bs = firstE [histF sa us, histF sb bs]) ∧ (firstE [histF sa us, histF sb bs] = 0 → mergeE sa us sb bs = 13)) := Lib.hid ⟨fun h => by unfold mergeE; rw [if_pos h], fun h => by unfold mergeE; rw [if_neg (by simpa using h)]⟩
  have HBD := Lib.hid hbad
  clear hbad
  obtain ⟨fa, hfa⟩ : ∃ x, histF sa us = x := ⟨_, rfl⟩
  obtain ⟨fb, hfb⟩ : ∃ x, histF sb bs = x := ⟨_, rfl⟩
  rw [hfa, hfb] at ME HBD
  have HFA := Lib.hid hfa
  have HFB := Lib.hid hfb
  clear hfa hfb
  obtain ⟨ef, hef⟩ : ∃ x, firstE [fa, fb] = x := ⟨_, rfl⟩
  rw [hef] at ME HBD
  have HEF := Lib.hid hef
  clear hef
  go_enter Tryz.func30, Tryz.ntmps30
  go_upto_region 1 with (fail)
  have kA : Blk (((w.alloc (.cells #[.slice SA sa.length c, .slice TA us.length d] 56)).alloc (.cells #[.slice SB sb.length c', .slice TB bs.length d'] 56)).alloc (.cells #[.slice none 0 0, .slice none 0 0] 56)) w.heap.size 56 #[.slice SA sa.length c, .slice TA us.length d] := ((Blk.new _ _ _).alloc _).alloc _
  have kB : Blk (((w.alloc (.cells #[.slice SA sa.length c, .slice TA us.length d] 56)).alloc (.cells #[.slice SB sb.length c', .slice TB bs.length d'] 56)).alloc (.cells #[.slice none 0 0, .slice none 0 0] 56)) (w.heap.size + 1) 56 #[.slice SB sb.length c', .slice TB bs.length d'] := by
    have := (Blk.new (w.alloc (.cells #[.slice SA sa.length c, .slice TA us.length d] 56)) 56 #[.slice SB sb.length c', .slice TB bs.length d']).alloc (.cells #[.slice none 0 0, .slice none 0 0] 56)
    simpa using this
  have kR : Blk (((w.alloc (.cells #[.slice SA sa.length c, .slice TA us.length d] 56)).alloc (.cells #[.slice SB sb.length c', .slice TB bs.length d'] 56)).alloc (.cells #[.slice none 0 0, .slice none 0 0] 56)) (w.heap.size + 2) 56 #[.slice none 0 0, .slice none 0 0] := by
    have := Blk.new ((w.alloc (.cells #[.slice SA sa.length c, .slice TA us.length d] 56)).alloc (.cells #[.slice SB sb.length c', .slice TB bs.length d'] 56)) 56 #[.slice none 0 0, .slice none 0 0]
    simpa using this
  have hA := ((hA.alloc (.cells #[.slice SA sa.length c, .slice TA us.length d] 56)).alloc (.cells #[.slice SB sb.length c', .slice TB bs.length d'] 56)).alloc (.cells #[.slice none 0 0, .slice none 0 0] 56)
  have hB := ((hB.alloc (.cells #[.slice SA sa.length c, .slice TA us.length d] 56)).alloc (.cells #[.slice SB sb.length c', .slice TB bs.length d'] 56)).alloc (.cells #[.slice none 0 0, .slice none 0 0] 56)
  have hx : Below w.heap.size w (((w.alloc (.cells #[.slice SA sa.length c, .slice TA us.length d] 56)).alloc (.cells #[.slice SB sb.length c', .slice TB bs.length d'] 56)).alloc (.cells #[.slice none 0 0, .slice none 0 0] 56)) := (((Below.refl _ _).alloc (Nat.le_refl _) _).alloc (by simp) _).alloc (by simp; omega) _
  generalize ((w.alloc (.cells #[.slice SA sa.length c, .slice TA us.length d] 56)).alloc (.cells #[.slice SB sb.length c', .slice TB bs.length d'] 56)).alloc (.cells #[.slice none 0 0, .slice none 0 0] 56) = w0 at *
  have hA := hA.below (Below.refl _ _).drew
  have hB := hB.below (Below.refl _ _).drew
  have kA := kA.drew
  have kB := kB.drew
  have kR := kR.drew
  have hx := hx.drew
  refine wp_region_held_drew (S := (fun w' => (w'.cell? ⟨w.heap.size, 0, none⟩ = some (.slice SA sa.length c) ∧ w'.cell? ⟨w.heap.size, 1, none⟩ = some (.slice TA us.length d)) ∧ w'.cell? ⟨w.heap.size + 1, 0, none⟩ = some (.slice SB sb.length c') ∧ w'.cell? ⟨w.heap.size + 1, 1, none⟩ = some (.slice TB bs.length d'))) (by kernel_rfl) (⟨kA.two_, kB.two_⟩) (fun hHeld => ?_)
  (refine wpAnyH_take (i := 0) (v := ?_) (by (simp only [List.getElem?_toArray, List.getElem?_cons_zero]; rfl)) (by kernel_rfl) (by kernel_rfl) (by kernel_rfl) (by exact fun _ _ _ h => h) (Or.inl ⟨by rfl, ?_⟩) (by assumption) ?_; (rotate_left 1; (intro w hSw; (try dsimp only at hSw); go_simp); (try with_reducible rfl)); (try simp only [Act.put, List.setIfInBounds_toArray, List.set_cons_zero, List.set_cons_succ]))
  (refine wpAnyH_take (i := 2) (v := ?_) (by (simp only [List.getElem?_toArray, List.getElem?_cons_succ, List.getElem?_cons_zero]; rfl)) (by kernel_rfl) (by kernel_rfl) (by kernel_rfl) (by exact fun _ _ _ h => h) (Or.inl ⟨by rfl, ?_⟩) (by assumption) ?_; (rotate_left 1; (intro w hSw; (try dsimp only at hSw); go_simp); (try with_reducible rfl)); (try simp only [Act.put, List.setIfInBounds_toArray, List.set_cons_zero, List.set_cons_succ]))
  refine wpAnyH_ready (rs := [1]) (by kernel_rfl) (by simp) ?_
  refine AllReadyH.cons rfl (fun K hK => ?_) AllReadyH.nil
  go_simp
  go_at_call 81
  refine (checkHistory_any SA TA c d _ sa us _ hA zA.hc zA.h9 zA.h8 zA.h7 zA.h6).mono ?_
  rintro e wa ⟨rfl, hba⟩
  have hA := hA.below hba
  have hB := hB.below hba
  have kA := kA.below hba
  have kB := kB.below hba
  have kR := kR.below hba
  have hx := below_up hx hba
  rw [HFA.out]
  go_wp2_with fail
  refine hK.out _ _ (⟨kA.two_, kB.two_⟩) (fun hHeld => ?_)
  clear hK K
  (try simp only [Act.put, List.setIfInBounds_toArray, List.set_cons_zero, List.set_cons_succ])
  refine wpAnyH_ready (rs := [3]) (by kernel_rfl) (by simp) ?_
  refine AllReadyH.cons rfl (fun K hK => ?_) AllReadyH.nil
  go_simp
  go_at_call 81
  refine (checkHistory_any SB TB c' d' _ sb bs _ hB zB.hc zB.h9 zB.h8 zB.h7 zB.h6).mono ?_
  rintro e wb ⟨rfl, hbb⟩
  have hA := hA.below hbb
  have hB := hB.below hbb
  have kA := kA.below hbb
  have kB := kB.below hbb
  have kR := kR.below hbb
  have hx := below_up hx hbb
  rw [HFB.out]
  go_wp2_with fail
  refine hK.out _ _ (⟨kA.two_, kB.two_⟩) (fun hHeld => ?_)
  clear hK K
  (try simp only [Act.put, List.setIfInBounds_toArray, List.set_cons_zero, List.set_cons_succ])
  refine wpAnyH_ready (rs := [4]) (by kernel_rfl) (by simp) ?_
  refine AllReadyH.cons rfl (fun K hK => ?_) AllReadyH.nil
  go_simp
  have hF := row_new wb #[.int .i64 fa, .int .i64 fb] 29 0 1 2 (Nat.zero_le _) rfl
  have hA := hA.alloc (.cells #[.int .i64 fa, .int .i64 fb] 29)
  have hB := hB.alloc (.cells #[.int .i64 fa, .int .i64 fb] 29)
  have kA := kA.alloc (.cells #[.int .i64 fa, .int .i64 fb] 29)
  have kB := kB.alloc (.cells #[.int .i64 fa, .int .i64 fb] 29)
  have kR := kR.alloc (.cells #[.int .i64 fa, .int .i64 fb] 29)
  have hx : Below w.heap.size w (wb.alloc (.cells #[.int .i64 fa, .int .i64 fb] 29)) := Below.alloc hx hx.size _
  refine hK.out _ _ (⟨kA.two_, kB.two_⟩) (fun hHeld => ?_)
  clear hK K
  (try simp only [Act.put, List.setIfInBounds_toArray, List.set_cons_zero, List.set_cons_succ])
  refine wpAnyH_ready (rs := [5]) (by kernel_rfl) (by simp) ?_
  refine AllReadyH.cons rfl (fun K hK => ?_) AllReadyH.nil
  go_simp
  go_at_call 80
  refine (first_any _ _ 0 [fa, fb] _ hF (by simp)).mono ?_
  rintro e wf ⟨rfl, rfl⟩
  rw [HEF.out]
  go_wp2_with fail
  refine hK.out _ _ (⟨kA.two_, kB.two_⟩) (fun hHeld => ?_)
  clear hK K
  (try simp only [Act.put, List.setIfInBounds_toArray, List.set_cons_zero, List.set_cons_succ])
  (refine wpAnyH_take (i := 6) (v := ?_) (by (simp only [List.getElem?_toArray, List.getElem?_cons_succ, List.getElem?_cons_zero]; rfl)) (by kernel_rfl) (by kernel_rfl) (by kernel_rfl) (by exact fun _ _ _ h => h) (Or.inl ⟨by rfl, ?_⟩) (by assumption) ?_; (rotate_left 1; (intro w hSw; (try dsimp only at hSw); go_simp); (try with_reducible rfl)); (try simp only [Act.put, List.setIfInBounds_toArray, List.set_cons_zero, List.set_cons_succ]))
  refine wpAnyH_done (by kernel_rfl) ?_ _
  generalize wb.alloc (.cells #[.int .i64 fa, .int .i64 fb] 29) = w1 at *
  clear hF hba hbb
  have fin : ∀ (W : World) (x : Int), Below w.heap.size w W → Below w.heap.size w ((W.setCell ⟨w.heap.size + 2, 0, none⟩ (.slice none 0 0)).setCell ⟨w.heap.size + 2, 1, none⟩ (.slice none 0 0)) := fun W x h => Below.setCell (Below.setCell h (p := ⟨w.heap.size + 2, 0, none⟩) (by simp) _) (p := ⟨w.heap.size + 2, 1, none⟩) (by simp) _
  have HFIN := Lib.hid fin
  clear fin
  by_cases he : ef = 0
  · have HE0 := Lib.hid he
    have hns := HBD.out.resolve_left (fun h => h he)
    have HDE : Hid (decide (sa = sb) = false) := Lib.hid (decide_eq_false hns)
    subst he
    clear hns
    obtain ⟨a0, a1⟩ := kA.two_
    obtain ⟨b0, b1⟩ := kB.two_
    have za := kA.lt
    have zb := kB.lt
    go_wp2_with fail
    refine (equalS_any SA SB c c' _ _ sa sb _ hA.1 hB.1 (by omega) (by omega)).mono ?_
    rintro e w2 ⟨rfl, q, rfl⟩
    rw [HDE.out]
    have bq : Below w1.heap.size w1 (w1.drewN q) := below_drewN' (Below.refl _ _) q
    have kR2 := kR.below bq
    have hx2 := below_up hx bq
    generalize w1.drewN q = w2 at *
    clear bq a0 a1 b0 b1 za zb
    obtain ⟨r0, r1⟩ := kR2.two_
    have rz := kR2.lt
    have rf0 := kR2.thaw 0
    have rf1 := kR2.thaw 1
    obtain ⟨z0, z1, z2⟩ := kR2.two2 (.slice none 0 0) (.slice none 0 0)
    go_wp2_with fail
    refine bodyPost_ret (v := .tuple #[.agg #[.slice none 0 0, .slice none 0 0], .int .i64 13]) (by simp [results, Tryz.results30, go_sem, z0, z1, z2]) rfl ?_
    exact ⟨by rw [ME.out.2 HE0.out], HFIN.out _ 0 hx2⟩
  · have dn : (ef != 0) = true := by simpa using he
    have HM := Lib.hid (ME.out.1 he)
    clear he
    obtain ⟨r0, r1⟩ := kR.two_
    have rz := kR.lt
    have rf0 := kR.thaw 0
    have rf1 := kR.thaw 1
    obtain ⟨z0, z1, z2⟩ := kR.two2 (.slice none 0 0) (.slice none 0 0)
    go_wp2_with fail
    refine bodyPost_ret (v := .tuple #[.agg #[.slice none 0 0, .slice none 0 0], .int .i64 ef]) (by simp [results, Tryz.results30, go_sem, z0, z1, z2]) rfl ?_
    exact ⟨by rw [HM.out], HFIN.out _ 0 hx⟩
end Go.Proofs.YtggnccafmadacaaGreatDoor
