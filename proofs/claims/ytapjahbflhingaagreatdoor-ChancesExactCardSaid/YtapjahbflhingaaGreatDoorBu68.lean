/- Texts of this seat, laid together: Sv. -/
import Derived.Handy
import Derived.Test.YtapjahbflhingaaGreatDoorBu05
import Derived.Test.YtapjahbflhingaaGreatDoorBu67
import Derived.Test.YtapjahbflhingaaGreatDoorBu17
import Derived.Test.YtapjahbflhingaaGreatDoorBu62
import Derived.Test.YtapjahbflhingaaGreatDoorBu63
import Derived.Test.YtapjahbflhingaaGreatDoorBu24
import Derived.Test.YtapjahbflhingaaGreatDoorBu27
import Derived.Test.YtapjahbflhingaaGreatDoorBu23
import Derived.Test.YtapjahbflhingaaGreatDoorBu03
/- The walks of segment.Save and splitref1.SaveOf at a right history. -/
namespace Go.Proofs.YtapjahbflhingaaGreatDoor
set_option linter.unusedVariables false
set_option linter.unusedSimpArgs false
open Go.RowKit Go.Sort

abbrev Pr2 := List UInt8 × List UInt8
def encP2 (x : Pr2) : List Value := [encStr x.1, encStr x.2]
def pr2 (l : List Pr2) : List Value := l.flatMap encP2
theorem pr2_len (l : List Pr2) : (pr2 l).length = l.length * 2 := by
  induction l with
  | nil => rfl
  | cons a l ih => simp [pr2, encP2] at *; omega
theorem pr2_app (a b : List Pr2) : pr2 (a ++ b) = pr2 a ++ pr2 b := by simp [pr2]
theorem ty_pairs : SliceTy Tryz.prog 34 52 2 32 := .mk' Tryz.underlying34 (z := .agg #[.string ⟨#[]⟩, .string ⟨#[]⟩]) (by kernel_rfl) rfl (by decide)
/-- What a segment lost to the gold of it, as it is told. -/
def savP (segs : List (List UInt8)) (t g : List Int) (k : Nat) : Pr2 := (segs.getD k [], Lib.itoa (IntKind.i64.wrap (t.getD k 0 - g.getD k 0)))
def savL (segs : List (List UInt8)) (t g : List Int) : Nat → List Pr2
  | 0 => []
  | k + 1 => savL segs t g k ++ (if 0 < t.getD k 0 then [savP segs t g k] else [])
theorem savL_le (segs : List (List UInt8)) (t g : List Int) : ∀ k, (savL segs t g k).length ≤ k
  | 0 => Nat.le_refl _
  | k + 1 => by
    have := savL_le segs t g k
    simp only [savL, List.length_append]
    split <;> simp <;> omega
theorem savL_yes {segs : List (List UInt8)} {t g : List Int} {k : Nat} (hs : k < segs.length) (ht : k < t.length) (hg : k < g.length) (h : 0 < t[k]) : savL segs t g (k + 1) = savL segs t g k ++ [(segs[k], Lib.itoa (IntKind.i64.wrap (t[k] - g[k])))] := by
  simp only [savL, savP, List.getD_eq_getElem?_getD, List.getElem?_eq_getElem hs, List.getElem?_eq_getElem ht, List.getElem?_eq_getElem hg, Option.getD_some]
  rw [if_pos h]
theorem savL_no {segs : List (List UInt8)} {t g : List Int} {k : Nat} (ht : k < t.length) (h : ¬ 0 < t[k]) : savL segs t g (k + 1) = savL segs t g k := by
  simp only [savL, List.getD_eq_getElem?_getD, List.getElem?_eq_getElem ht, Option.getD_some]
  rw [if_neg h, List.append_nil]
/-- What the best attempt lost. -/
def savO (segs : List (List UInt8)) (atts : List Att) : List Pr2 :=
  if bI segs.length atts atts.length < 0 then [] else savL segs (tmL (atts.getD (bI segs.length atts atts.length).toNat (0, [])).2 segs.length) (goldL atts segs.length) segs.length
theorem savO_at {segs : List (List UInt8)} {atts : List Att} {j : Nat} (hj : j < atts.length) (hb : bI segs.length atts atts.length = j) : savO segs atts = savL segs (tmL atts[j].2 segs.length) (goldL atts segs.length) segs.length := by
  unfold savO
  rw [hb, if_neg (by omega), Int.toNat_natCast, List.getD_eq_getElem?_getD, List.getElem?_eq_getElem hj]; rfl
theorem itoa_any (n : Int) (h0 : -9223372036854775808 ≤ n) (h1 : n ≤ 9223372036854775807) (w : World) (ht : Pow w) :
    Calls Tryz.prog 48 #[.int .i64 n] w fun e w' => e = .returned (encStr (Lib.itoa n)) ∧ Below w.heap.size w w' := by
  refine (Tryz.strconv_Itoa n h0 h1 w ht).mono ?_
  rintro e w' ⟨rfl, k, os, rfl⟩
  exact ⟨rfl, below_up (below_drewN' (Below.refl _ _) k) (below_grow _ os)⟩
set_option maxHeartbeats 4000000 in
set_option maxRecDepth 100000 in
theorem Save_ok (SA TA : Option Addr) (c d lo : Nat) (segs : List (List UInt8)) (atts : List Att) (w : World) (hh : Hist w lo SA TA segs atts) (hc : segs.length ≤ c) (hok : HistOk segs atts) (ht : Pow w) :
    Calls Tryz.prog 10 #[.agg #[.slice SA segs.length c, .slice TA atts.length d]] w fun e w' => ∃ A' c', e = .returned (.tuple #[.slice A' (savO segs atts).length c', .bool (decide (0 ≤ bI segs.length atts atts.length)), .int .i64 0]) ∧ Row w' w.heap.size 2 A' (savO segs atts).length (pr2 (savO segs atts)) ∧ Below w.heap.size w w' := by
  have n1 := hok.n1
  have n2 := hok.n2
  have m := hok.m
  have HO := Lib.hid hok
  have KEY : Hid (∀ s ∈ segs, s.length ≤ 1000000000) := Lib.hid (fun s hs => by
    obtain ⟨i, hi, rfl⟩ := List.mem_iff_getElem.1 hs
    have := hok.key i hi
    unfold keyB at this
    simp only [Bool.and_eq_true, decide_eq_true_eq] at this
    omega)
  clear hok
  go_enter Tryz.func10, Tryz.ntmps10
  go_wp2_with fail
  have kA : Blk (w.alloc (.cells #[.slice SA segs.length c, .slice TA atts.length d] 29)) w.heap.size 29 #[.slice SA segs.length c, .slice TA atts.length d] := Blk.new _ _ _
  have hx : Below w.heap.size w (w.alloc (.cells #[.slice SA segs.length c, .slice TA atts.length d] 29)) := (Below.refl _ _).alloc (Nat.le_refl _) _
  have hh := hh.alloc (.cells #[.slice SA segs.length c, .slice TA atts.length d] 29)
  have ht := ht.alloc (.cells #[.slice SA segs.length c, .slice TA atts.length d] 29)
  generalize w.alloc (.cells #[.slice SA segs.length c, .slice TA atts.length d] 29) = w0 at *
  refine (checkHistory_any SA TA c d _ segs atts _ hh hc (by omega) (by omega) (fun i h => by have := (HO.out.spl i h).len; omega) KEY.out).mono ?_
  rintro e w1 ⟨rfl, hb⟩
  rw [histF_zero HO.out]
  have kA := kA.below hb
  have hh := hh.below hb
  have ht := ht.below hb
  have hx := below_up hx hb
  clear hb
  go_wp2_with fail
  refine (best_ok w.heap.size SA TA c d _ segs atts _ kA hh (by omega) (by omega) (by omega)).mono ?_
  rintro e w2 ⟨rfl, hb⟩
  have kA := kA.below hb
  have hh := hh.below hb
  have ht := ht.below hb
  have hx := below_up hx hb
  clear hb
  rcases bI_inv segs.length atts atts.length (Nat.le_refl _) with hbi | ⟨j, hj, hbi, _, hlj⟩
  · have HV : Hid (savO segs atts = [] ∧ decide (0 ≤ bI segs.length atts atts.length) = false) := Lib.hid ⟨by unfold savO; rw [if_pos (by omega)], by rw [hbi]; decide⟩
    rw [hbi]
    clear hbi
    go_wp2_with fail
    go_returns
    obtain ⟨v1, v2⟩ := HV.out
    rw [v1, v2]
    exact ⟨none, 0, rfl, Row.none_ _ _ _ _, hx⟩
  · have HV : Hid (savO segs atts = savL segs (tmL atts[j].2 segs.length) (goldL atts segs.length) segs.length ∧ decide (0 ≤ bI segs.length atts atts.length) = true) := Lib.hid ⟨savO_at hj hbi, by rw [hbi]; simp⟩
    rw [hbi]
    clear hbi
    have dj : decide ((j : Int) < 0) = false := by simp
    go_wp2_with fail
    refine (golds_any w.heap.size SA TA c d _ segs atts _ kA hh HO.out).mono ?_
    rintro e w3 ⟨G, cG, rfl, hoG, hb⟩
    have kA := kA.below hb
    have hh := hh.below hb
    have ht := ht.below hb
    have hx := below_up hx hb
    have hrG := Row.of_own hoG
    have hGL : (goldL atts segs.length).length = segs.length := goldL_len _ _
    have HSO := Lib.hid (HO.out.spl j hj)
    clear hb hoG
    obtain ⟨a0, a1⟩ := kA.two_
    have za := kA.lt
    obtain ⟨b, off, B, cB, rfl, hbs, c0, c1, hrB⟩ := hh.att hj
    generalize goldL atts segs.length = g at *
    generalize atts[j] = x at *
    obtain ⟨no, l⟩ := x
    dsimp only at *
    have HLJ := Lib.hid hlj
    have hl60 : l.length ≤ 60 := by omega
    clear hlj
    go_wp2_with fail
    refine (htimes_any segs.length B cB _ l _ hrB (by omega) HSO.out).mono ?_
    rintro e w4 ⟨T, cT, rfl, hoT, hb⟩
    have kA := kA.below hb
    have hh := hh.below hb
    have ht := ht.below hb
    have hx := below_up hx hb
    have hrT := Row.of_own hoT
    have hrG := hrG.below hb
    have hTL : (tmL l l.length).length = segs.length := by rw [tmL_len]; exact HLJ.out
    have HV2 : Hid (tmL l segs.length = tmL l l.length) := Lib.hid (by rw [HLJ.out])
    rw [HV2.out] at HV
    generalize tmL l l.length = t at *
    clear hb hoT a0 a1 za c0 c1 hbs hrB HSO HLJ HV2 hl60
    have hS := hh.1
    clear hh
    have hgl : g.length ≤ segs.length := Nat.le_of_eq hGL
    have hgl2 : segs.length ≤ g.length := Nat.le_of_eq hGL.symm
    have htl : t.length ≤ segs.length := Nat.le_of_eq hTL
    have htl2 : segs.length ≤ t.length := Nat.le_of_eq hTL.symm
    clear hGL hTL
    have hzx := hx.size
    obtain ⟨w5, hw5⟩ : ∃ W, W = w4 := ⟨_, rfl⟩
    subst hw5
    go_wp2_with fail
    go_loopw [8, 28] (fun v i wr => ∃ (k : Nat) (A' : Option Addr) (cc : Nat), k ≤ t.length ∧ i = .int .i64 k ∧ v = .slice A' (savL segs t g k).length cc ∧ wr.ownsRow w5.heap.size 52 2 (.slice A' (savL segs t g k).length cc) (savL segs t g k).length (pr2 (savL segs t g k)) ∧ Below w5.heap.size w5 wr) (fun _ i _ => t.length - (intOf i).toNat)
    case atStart => exact ⟨0, none, 0, Nat.zero_le _, rfl, rfl, World.ownsRow_nil _ _ _ _, Below.refl _ _⟩
    case round =>
      obtain ⟨k, A', cc, hk, rfl, rfl, ho, hy⟩ := hrel
      have hle := savL_le segs t g k
      have hyz := hy.size
      by_cases hlt : k < t.length
      · obtain ⟨tb, to_, rfl, _, htb, tc⟩ := (hrT.below hy).int_at hlt
        have HYES := Lib.hid (fun h => savL_yes (segs := segs) (g := g) (k := k) (by omega) hlt (by omega) h)
        have HNO := Lib.hid (fun h => savL_no (segs := segs) (g := g) (k := k) hlt h)
        by_cases hp : 0 < t[k]
        · have HQ := Lib.hid (HYES.out hp)
          clear HYES HNO
          obtain ⟨sb, so, rfl, _, sz, s0⟩ := hS.str_at (k := k) (by omega)
          obtain ⟨gb, go_, rfl, _, gz, g0⟩ := hrG.int_at (k := k) (by omega)
          unfold encStr at s0
          generalize segs[k]'(by omega) = z at *
          generalize t[k] = tk at *
          generalize g[k]'(by omega) = gk at *
          have dp : decide (0 < tk) = true := by simpa using hp
          have dgt : decide (tk > 0) = true := by simpa using hp
          have hks : k < segs.length := by omega
          have hkg : k < g.length := by omega
          have hiw : I64 (IntKind.i64.wrap (tk - gk)) := by rw [IntWalk.i64_left]; exact i64_wrap (tk - gk)
          clear hp
          go_upto_region 13 with (fail)
          have hyD := hy.drew
          have hoD := own_keep ho (Below.refl wr.heap.size wr).drew
          clear tc htb hy ho
          refine wp_region_held_drew (S := (fun w' => (w'.cell? ⟨w.heap.size, 0, none⟩ = some (.slice (some ⟨sb, so, none⟩) segs.length c) ∧ w'.cell? ⟨sb, so + k, none⟩ = some (.string ⟨z.toArray⟩)) ∧ w'.cell? ⟨gb, go_ + k, none⟩ = some (.int .i64 gk))) (by kernel_rfl) (⟨⟨(kA.below hyD).two_.1, (hyD.cell sz).trans s0⟩, (hyD.cell gz).trans g0⟩) (fun hHeld => ?_)
          generalize wr.drew = wd at *
          (refine wpAnyH_take (i := 0) (v := ?_) (by (simp only [List.getElem?_toArray, List.getElem?_cons_zero]; rfl)) (by kernel_rfl) (by kernel_rfl) (by kernel_rfl) (by exact fun _ _ _ h => h) (Or.inl ⟨by rfl, ?_⟩) (by assumption) ?_; (rotate_left 1; (intro w hSw; (try dsimp only at hSw); go_simp); (try with_reducible rfl)); (try simp only [Act.put, List.setIfInBounds_toArray, List.set_cons_zero, List.set_cons_succ]))
          (refine wpAnyH_take (i := 1) (v := ?_) (by (simp only [List.getElem?_toArray, List.getElem?_cons_succ, List.getElem?_cons_zero]; rfl)) (by kernel_rfl) (by kernel_rfl) (by kernel_rfl) (by exact fun _ _ _ h => h) (Or.inl ⟨by rfl, ?_⟩) (by assumption) ?_; (rotate_left 1; (intro w hSw; (try dsimp only at hSw); go_simp); (try with_reducible rfl)); (try simp only [Act.put, List.setIfInBounds_toArray, List.set_cons_zero, List.set_cons_succ]))
          (refine wpAnyH_take (i := 2) (v := ?_) (by (simp only [List.getElem?_toArray, List.getElem?_cons_succ, List.getElem?_cons_zero]; rfl)) (by kernel_rfl) (by kernel_rfl) (by kernel_rfl) (by exact fun _ _ _ h => h) (Or.inl ⟨by rfl, ?_⟩) (by assumption) ?_; (rotate_left 1; (intro w hSw; (try dsimp only at hSw); go_simp); (try with_reducible rfl)); (try simp only [Act.put, List.setIfInBounds_toArray, List.set_cons_zero, List.set_cons_succ]))
          (refine wpAnyH_take (i := 3) (v := ?_) (by (simp only [List.getElem?_toArray, List.getElem?_cons_succ, List.getElem?_cons_zero]; rfl)) (by kernel_rfl) (by kernel_rfl) (by kernel_rfl) (by exact fun _ _ _ h => h) (Or.inl ⟨by rfl, ?_⟩) (by assumption) ?_; (rotate_left 1; (intro w hSw; (try dsimp only at hSw); go_simp); (try with_reducible rfl)); (try simp only [Act.put, List.setIfInBounds_toArray, List.set_cons_zero, List.set_cons_succ]))
          (refine wpAnyH_take (i := 4) (v := ?_) (by (simp only [List.getElem?_toArray, List.getElem?_cons_succ, List.getElem?_cons_zero]; rfl)) (by kernel_rfl) (by kernel_rfl) (by kernel_rfl) (by exact fun _ _ _ h => h) (Or.inl ⟨by rfl, ?_⟩) (by assumption) ?_; (rotate_left 1; (intro w hSw; (try dsimp only at hSw); go_simp); (try with_reducible rfl)); (try simp only [Act.put, List.setIfInBounds_toArray, List.set_cons_zero, List.set_cons_succ]))
          (refine wpAnyH_take (i := 5) (v := ?_) (by (simp only [List.getElem?_toArray, List.getElem?_cons_succ, List.getElem?_cons_zero]; rfl)) (by kernel_rfl) (by kernel_rfl) (by kernel_rfl) (by exact fun _ _ _ h => h) (Or.inl ⟨by rfl, ?_⟩) (by assumption) ?_; (rotate_left 1; (intro w hSw; (try dsimp only at hSw); go_simp); (try with_reducible rfl)); (try simp only [Act.put, List.setIfInBounds_toArray, List.set_cons_zero, List.set_cons_succ]))
          (refine wpAnyH_take (i := 6) (v := ?_) (by (simp only [List.getElem?_toArray, List.getElem?_cons_succ, List.getElem?_cons_zero]; rfl)) (by kernel_rfl) (by kernel_rfl) (by kernel_rfl) (by exact fun _ _ _ h => h) (Or.inl ⟨by rfl, ?_⟩) (by assumption) ?_; (rotate_left 1; (intro w hSw; (try dsimp only at hSw); go_simp); (try with_reducible rfl)); (try simp only [Act.put, List.setIfInBounds_toArray, List.set_cons_zero, List.set_cons_succ]))
          (refine wpAnyH_take (i := 7) (v := ?_) (by (simp only [List.getElem?_toArray, List.getElem?_cons_succ, List.getElem?_cons_zero]; rfl)) (by kernel_rfl) (by kernel_rfl) (by kernel_rfl) (by exact fun _ _ _ h => h) (Or.inl ⟨by rfl, ?_⟩) (by assumption) ?_; (rotate_left 1; (intro w hSw; (try dsimp only at hSw); go_simp); (try with_reducible rfl)); (try simp only [Act.put, List.setIfInBounds_toArray, List.set_cons_zero, List.set_cons_succ]))
          (refine wpAnyH_take (i := 8) (v := ?_) (by (simp only [List.getElem?_toArray, List.getElem?_cons_succ, List.getElem?_cons_zero]; rfl)) (by kernel_rfl) (by kernel_rfl) (by kernel_rfl) (by exact fun _ _ _ h => h) (Or.inl ⟨by rfl, ?_⟩) (by assumption) ?_; (rotate_left 1; (intro w hSw; (try dsimp only at hSw); go_simp); (try with_reducible rfl)); (try simp only [Act.put, List.setIfInBounds_toArray, List.set_cons_zero, List.set_cons_succ]))
          (refine wpAnyH_take (i := 9) (v := ?_) (by (simp only [List.getElem?_toArray, List.getElem?_cons_succ, List.getElem?_cons_zero]; rfl)) (by kernel_rfl) (by kernel_rfl) (by kernel_rfl) (by exact fun _ _ _ h => h) (Or.inl ⟨by rfl, ?_⟩) (by assumption) ?_; (rotate_left 1; (intro w hSw; (try dsimp only at hSw); go_simp); (try with_reducible rfl)); (try simp only [Act.put, List.setIfInBounds_toArray, List.set_cons_zero, List.set_cons_succ]))
          (refine wpAnyH_take (i := 10) (v := ?_) (by (simp only [List.getElem?_toArray, List.getElem?_cons_succ, List.getElem?_cons_zero]; rfl)) (by kernel_rfl) (by kernel_rfl) (by kernel_rfl) (by exact fun _ _ _ h => h) (Or.inl ⟨by rfl, ?_⟩) (by assumption) ?_; (rotate_left 1; (intro w hSw; (try dsimp only at hSw); go_simp); (try with_reducible rfl)); (try simp only [Act.put, List.setIfInBounds_toArray, List.set_cons_zero, List.set_cons_succ]))
          (refine wpAnyH_take (i := 11) (v := ?_) (by (simp only [List.getElem?_toArray, List.getElem?_cons_succ, List.getElem?_cons_zero]; rfl)) (by kernel_rfl) (by kernel_rfl) (by kernel_rfl) (by exact fun _ _ _ h => h) (Or.inl ⟨by rfl, ?_⟩) (by assumption) ?_; (rotate_left 1; (intro w hSw; (try dsimp only at hSw); go_simp); (try with_reducible rfl)); (try simp only [Act.put, List.setIfInBounds_toArray, List.set_cons_zero, List.set_cons_succ]))
          refine wpAnyH_ready (rs := [12]) (by kernel_rfl) (by simp) ?_
          refine AllReadyH.cons rfl (fun K hK => ?_) AllReadyH.nil
          go_simp
          go_at_call 48
          refine (itoa_any (IntKind.i64.wrap (tk - gk)) hiw.1 hiw.2 _ (ht.below hyD)).mono ?_
          rintro e w6 ⟨rfl, hb⟩
          have hoD := own_keep hoD hb
          have hyD := below_up hyD hb
          unfold encStr
          clear hb
          go_wp2_with fail
          refine hK.out _ _ (⟨⟨(kA.below hyD).two_.1, (hyD.cell sz).trans s0⟩, (hyD.cell gz).trans g0⟩) (fun hHeld => ?_)
          clear hK K
          (try simp only [Act.put, List.setIfInBounds_toArray, List.set_cons_zero, List.set_cons_succ])
          (refine wpAnyH_take (i := 13) (v := ?_) (by (simp only [List.getElem?_toArray, List.getElem?_cons_succ, List.getElem?_cons_zero]; rfl)) (by kernel_rfl) (by kernel_rfl) (by kernel_rfl) (by exact fun _ _ _ h => h) (Or.inl ⟨by rfl, ?_⟩) (by assumption) ?_; (rotate_left 1; (intro w hSw; (try dsimp only at hSw); go_simp); (try with_reducible rfl)); (try simp only [Act.put, List.setIfInBounds_toArray, List.set_cons_zero, List.set_cons_succ]))
          refine wpAnyH_ready (rs := [14]) (by kernel_rfl) (by simp) ?_
          refine AllReadyH.cons rfl (fun K hK => ?_) AllReadyH.nil
          go_simp
          have hby : Blk (w6.alloc (.cells #[.string ⟨z.toArray⟩, .string ⟨(Lib.itoa (IntKind.i64.wrap (tk - gk))).toArray⟩] 52)) w6.heap.size 52 #[.string ⟨z.toArray⟩, .string ⟨(Lib.itoa (IntKind.i64.wrap (tk - gk))).toArray⟩] := Blk.new _ _ _
          have hoD := hoD.alloc (.cells #[.string ⟨z.toArray⟩, .string ⟨(Lib.itoa (IntKind.i64.wrap (tk - gk))).toArray⟩] 52)
          have hyD := Below.alloc hyD hyD.size (.cells #[.string ⟨z.toArray⟩, .string ⟨(Lib.itoa (IntKind.i64.wrap (tk - gk))).toArray⟩] 52)
          refine hK.out _ _ (⟨⟨(kA.below hyD).two_.1, (hyD.cell sz).trans s0⟩, (hyD.cell gz).trans g0⟩) (fun hHeld => ?_)
          clear hK K
          (try simp only [Act.put, List.setIfInBounds_toArray, List.set_cons_zero, List.set_cons_succ])
          refine wpAnyH_ready (rs := [15]) (by kernel_rfl) (by simp) ?_
          refine AllReadyH.cons rfl (fun K hK => ?_) AllReadyH.nil
          refine step_app (lo := 0) (base := w5.heap.size) (n := (savL segs t g k).length) (xs := pr2 (savL segs t g k)) _ rfl _ _ ty_pairs rfl hoD rfl (Row.lit (n := 1) (size := 2) hby (Nat.zero_le _) rfl) rfl rfl (by omega) (by omega) hyD.size ?_
          intro A5 c5 w7 hown5 hg5 _
          have hyD := below_app hoD hyD hg5 (Nat.le_refl _) hyD.size
          have hown9 : w7.ownsRow w5.heap.size 52 2 (.slice A5 ((savL segs t g k).length + 1) c5) ((savL segs t g k).length + 1) (pr2 (savL segs t g k ++ [(z, Lib.itoa (IntKind.i64.wrap (tk - gk)))])) := by
            rw [pr2_app]; exact hown5
          clear hoD hown5 hby hg5
          refine hK.out _ _ (⟨⟨(kA.below hyD).two_.1, (hyD.cell sz).trans s0⟩, (hyD.cell gz).trans g0⟩) (fun hHeld => ?_)
          clear hK K
          (try simp only [Act.put, List.setIfInBounds_toArray, List.set_cons_zero, List.set_cons_succ])
          (refine wpAnyH_take (i := 16) (v := ?_) (by (simp only [List.getElem?_toArray, List.getElem?_cons_succ, List.getElem?_cons_zero]; rfl)) (by kernel_rfl) (by kernel_rfl) (by kernel_rfl) (by exact fun _ _ _ h => h) (Or.inl ⟨by rfl, ?_⟩) (by assumption) ?_; (rotate_left 1; (intro w hSw; (try dsimp only at hSw); go_simp); (try with_reducible rfl)); (try simp only [Act.put, List.setIfInBounds_toArray, List.set_cons_zero, List.set_cons_succ]))
          refine wpAnyH_done (by kernel_rfl) ?_ _
          clear hHeld
          go_wp2_with fail
          go_roundw
          case rel => exact ⟨k + 1, A5, c5, by omega, by go_num, by rw [HQ.out, List.length_append]; rfl, by rw [HQ.out, List.length_append]; exact hown9, hyD⟩
          case measure => simp [intOf]; omega
        · have dp : decide (0 < t[k]) = false := by simpa using hp
          have dgt : decide (t[k] > 0) = false := by simpa using hp
          have HQ := Lib.hid (HNO.out hp)
          clear HYES HNO hp
          generalize t[k] = tk at *
          go_wp2_with fail
          go_roundw
          case rel => exact ⟨k + 1, A', cc, by omega, by go_num, by rw [HQ.out], by rw [HQ.out]; exact ho, hy⟩
          case measure => simp [intOf]; omega
      · have hke : k = t.length := by omega
        subst hke
        have hts : t.length = segs.length := by omega
        go_wp2_with fail
        go_returns
        obtain ⟨v1, v2⟩ := HV.out
        rw [v1, v2, ← hts]
        exact ⟨A', cc, rfl, (Row.of_own ho).weak hzx, below_up hx hy⟩
set_option maxHeartbeats 4000000 in
set_option maxRecDepth 100000 in
theorem saveOf_any (SA TA : Option Addr) (c d lo : Nat) (segs : List (List UInt8)) (atts : List Att) (w : World) (hh : Hist w lo SA TA segs atts) (hok : HistOk segs atts) (ht : Pow w) :
    Calls Tryz.prog 15 #[.agg #[.slice SA segs.length c, .slice TA atts.length d]] w fun e w' => ∃ A' c', e = .returned (.tuple #[.slice A' (savO segs atts).length c', .bool (decide (0 ≤ bI segs.length atts atts.length))]) ∧ Row w' w.heap.size 2 A' (savO segs atts).length (pr2 (savO segs atts)) ∧ Below w.heap.size w w' := by
  have n1 := hok.n1
  have n2 := hok.n2
  have m := hok.m
  have HO := Lib.hid hok
  clear hok
  go_enter Tryz.func15, Tryz.ntmps15
  go_wp2_with fail
  have kA : Blk (w.alloc (.cells #[.slice SA segs.length c, .slice TA atts.length d] 29)) w.heap.size 29 #[.slice SA segs.length c, .slice TA atts.length d] := Blk.new _ _ _
  have hx : Below w.heap.size w (w.alloc (.cells #[.slice SA segs.length c, .slice TA atts.length d] 29)) := (Below.refl _ _).alloc (Nat.le_refl _) _
  have hh := hh.alloc (.cells #[.slice SA segs.length c, .slice TA atts.length d] 29)
  have ht := ht.alloc (.cells #[.slice SA segs.length c, .slice TA atts.length d] 29)
  generalize w.alloc (.cells #[.slice SA segs.length c, .slice TA atts.length d] 29) = w0 at *
  obtain ⟨a0, a1⟩ := kA.two_
  have za := kA.lt
  go_wp2_with fail
  refine (bestAttempt_ok SA TA c d _ segs atts _ hh (by omega) (by omega) (by omega)).mono ?_
  rintro e w2 ⟨rfl, hb⟩
  have kA := kA.below hb
  have hh := hh.below hb
  have ht := ht.below hb
  have hx := below_up hx hb
  clear hb a0 a1 za
  rcases bI_inv segs.length atts atts.length (Nat.le_refl _) with hbi | ⟨j, hj, hbi, _, hlj⟩
  · have HV : Hid (savO segs atts = [] ∧ decide (0 ≤ bI segs.length atts atts.length) = false) := Lib.hid ⟨by unfold savO; rw [if_pos (by omega)], by rw [hbi]; decide⟩
    rw [hbi]
    clear hbi
    go_wp2_with fail
    go_returns
    obtain ⟨v1, v2⟩ := HV.out
    rw [v1, v2]
    exact ⟨none, 0, rfl, Row.none_ _ _ _ _, hx⟩
  · have HV : Hid (savO segs atts = savL segs (tmL atts[j].2 segs.length) (goldL atts segs.length) segs.length ∧ decide (0 ≤ bI segs.length atts atts.length) = true) := Lib.hid ⟨savO_at hj hbi, by rw [hbi]; simp⟩
    rw [hbi]
    clear hbi
    have dj : decide ((j : Int) < 0) = false := by simp
    obtain ⟨a0, a1⟩ := kA.two_
    have za := kA.lt
    go_wp2_with fail
    refine (goldsOf_any SA TA c d _ segs atts _ hh HO.out).mono ?_
    rintro e w3 ⟨G, cG, rfl, hoG, hb⟩
    have kA := kA.below hb
    have hh := hh.below hb
    have ht := ht.below hb
    have hx := below_up hx hb
    have hrG := Row.of_own hoG
    have hGL : (goldL atts segs.length).length = segs.length := goldL_len _ _
    have HSO := Lib.hid (HO.out.spl j hj)
    clear hb hoG a0 a1 za
    obtain ⟨a0, a1⟩ := kA.two_
    have za := kA.lt
    obtain ⟨b, off, B, cB, rfl, hbs, c0, c1, hrB⟩ := hh.att hj
    generalize goldL atts segs.length = g at *
    generalize atts[j] = x at *
    obtain ⟨no, l⟩ := x
    dsimp only at *
    have HLJ := Lib.hid hlj
    have hl60 : l.length ≤ 60 := by omega
    clear hlj
    go_wp2_with fail
    refine (lengthsOf_any segs.length B cB _ l _ hrB (by omega) HSO.out).mono ?_
    rintro e w4 ⟨T, cT, rfl, hoT, hb⟩
    have kA := kA.below hb
    have hh := hh.below hb
    have ht := ht.below hb
    have hx := below_up hx hb
    have hrT := Row.of_own hoT
    have hrG := hrG.below hb
    have hTL : (tmL l l.length).length = segs.length := by rw [tmL_len]; exact HLJ.out
    have HV2 : Hid (tmL l segs.length = tmL l l.length) := Lib.hid (by rw [HLJ.out])
    rw [HV2.out] at HV
    generalize tmL l l.length = t at *
    clear hb hoT a0 a1 za c0 c1 hbs hrB HSO HLJ HV2 hl60
    have hS := hh.1
    clear hh
    have hgl : g.length ≤ segs.length := Nat.le_of_eq hGL
    have hgl2 : segs.length ≤ g.length := Nat.le_of_eq hGL.symm
    have htl : t.length ≤ segs.length := Nat.le_of_eq hTL
    have htl2 : segs.length ≤ t.length := Nat.le_of_eq hTL.symm
    clear hGL hTL
    have hzx := hx.size
    obtain ⟨w5, hw5⟩ : ∃ W, W = w4 := ⟨_, rfl⟩
    subst hw5
    go_wp2_with fail
    go_loopw [6, 23] (fun v i wr => ∃ (k : Nat) (A' : Option Addr) (cc : Nat), k ≤ t.length ∧ i = .int .i64 k ∧ v = .slice A' (savL segs t g k).length cc ∧ wr.ownsRow w5.heap.size 52 2 (.slice A' (savL segs t g k).length cc) (savL segs t g k).length (pr2 (savL segs t g k)) ∧ Below w5.heap.size w5 wr) (fun _ i _ => t.length - (intOf i).toNat)
    case atStart => exact ⟨0, none, 0, Nat.zero_le _, rfl, rfl, World.ownsRow_nil _ _ _ _, Below.refl _ _⟩
    case round =>
      obtain ⟨k, A', cc, hk, rfl, rfl, ho, hy⟩ := hrel
      have hle := savL_le segs t g k
      have hyz := hy.size
      by_cases hlt : k < t.length
      · obtain ⟨tb, to_, rfl, _, htb, tc⟩ := (hrT.below hy).int_at hlt
        have HYES := Lib.hid (fun h => savL_yes (segs := segs) (g := g) (k := k) (by omega) hlt (by omega) h)
        have HNO := Lib.hid (fun h => savL_no (segs := segs) (g := g) (k := k) hlt h)
        by_cases hp : 0 < t[k]
        · have HQ := Lib.hid (HYES.out hp)
          clear HYES HNO
          obtain ⟨sb, so, rfl, _, sz, s0⟩ := hS.str_at (k := k) (by omega)
          obtain ⟨gb, go_, rfl, _, gz, g0⟩ := hrG.int_at (k := k) (by omega)
          unfold encStr at s0
          generalize segs[k]'(by omega) = z at *
          generalize t[k] = tk at *
          generalize g[k]'(by omega) = gk at *
          have dp : decide (0 < tk) = true := by simpa using hp
          have dgt : decide (tk > 0) = true := by simpa using hp
          have hks : k < segs.length := by omega
          have hkg : k < g.length := by omega
          have hiw : I64 (IntKind.i64.wrap (tk - gk)) := by rw [IntWalk.i64_left]; exact i64_wrap (tk - gk)
          clear hp
          go_upto_region 10 with (fail)
          have hyD := hy.drew
          have hoD := own_keep ho (Below.refl wr.heap.size wr).drew
          clear tc htb hy ho
          refine wp_region_held_drew (S := (fun w' => (w'.cell? ⟨w.heap.size, 0, none⟩ = some (.slice (some ⟨sb, so, none⟩) segs.length c) ∧ w'.cell? ⟨sb, so + k, none⟩ = some (.string ⟨z.toArray⟩)) ∧ w'.cell? ⟨gb, go_ + k, none⟩ = some (.int .i64 gk))) (by kernel_rfl) (⟨⟨(kA.below hyD).two_.1, (hyD.cell sz).trans s0⟩, (hyD.cell gz).trans g0⟩) (fun hHeld => ?_)
          generalize wr.drew = wd at *
          (refine wpAnyH_take (i := 0) (v := ?_) (by (simp only [List.getElem?_toArray, List.getElem?_cons_zero]; rfl)) (by kernel_rfl) (by kernel_rfl) (by kernel_rfl) (by exact fun _ _ _ h => h) (Or.inl ⟨by rfl, ?_⟩) (by assumption) ?_; (rotate_left 1; (intro w hSw; (try dsimp only at hSw); go_simp); (try with_reducible rfl)); (try simp only [Act.put, List.setIfInBounds_toArray, List.set_cons_zero, List.set_cons_succ]))
          (refine wpAnyH_take (i := 1) (v := ?_) (by (simp only [List.getElem?_toArray, List.getElem?_cons_succ, List.getElem?_cons_zero]; rfl)) (by kernel_rfl) (by kernel_rfl) (by kernel_rfl) (by exact fun _ _ _ h => h) (Or.inl ⟨by rfl, ?_⟩) (by assumption) ?_; (rotate_left 1; (intro w hSw; (try dsimp only at hSw); go_simp); (try with_reducible rfl)); (try simp only [Act.put, List.setIfInBounds_toArray, List.set_cons_zero, List.set_cons_succ]))
          (refine wpAnyH_take (i := 2) (v := ?_) (by (simp only [List.getElem?_toArray, List.getElem?_cons_succ, List.getElem?_cons_zero]; rfl)) (by kernel_rfl) (by kernel_rfl) (by kernel_rfl) (by exact fun _ _ _ h => h) (Or.inl ⟨by rfl, ?_⟩) (by assumption) ?_; (rotate_left 1; (intro w hSw; (try dsimp only at hSw); go_simp); (try with_reducible rfl)); (try simp only [Act.put, List.setIfInBounds_toArray, List.set_cons_zero, List.set_cons_succ]))
          (refine wpAnyH_take (i := 3) (v := ?_) (by (simp only [List.getElem?_toArray, List.getElem?_cons_succ, List.getElem?_cons_zero]; rfl)) (by kernel_rfl) (by kernel_rfl) (by kernel_rfl) (by exact fun _ _ _ h => h) (Or.inl ⟨by rfl, ?_⟩) (by assumption) ?_; (rotate_left 1; (intro w hSw; (try dsimp only at hSw); go_simp); (try with_reducible rfl)); (try simp only [Act.put, List.setIfInBounds_toArray, List.set_cons_zero, List.set_cons_succ]))
          (refine wpAnyH_take (i := 4) (v := ?_) (by (simp only [List.getElem?_toArray, List.getElem?_cons_succ, List.getElem?_cons_zero]; rfl)) (by kernel_rfl) (by kernel_rfl) (by kernel_rfl) (by exact fun _ _ _ h => h) (Or.inl ⟨by rfl, ?_⟩) (by assumption) ?_; (rotate_left 1; (intro w hSw; (try dsimp only at hSw); go_simp); (try with_reducible rfl)); (try simp only [Act.put, List.setIfInBounds_toArray, List.set_cons_zero, List.set_cons_succ]))
          (refine wpAnyH_take (i := 5) (v := ?_) (by (simp only [List.getElem?_toArray, List.getElem?_cons_succ, List.getElem?_cons_zero]; rfl)) (by kernel_rfl) (by kernel_rfl) (by kernel_rfl) (by exact fun _ _ _ h => h) (Or.inl ⟨by rfl, ?_⟩) (by assumption) ?_; (rotate_left 1; (intro w hSw; (try dsimp only at hSw); go_simp); (try with_reducible rfl)); (try simp only [Act.put, List.setIfInBounds_toArray, List.set_cons_zero, List.set_cons_succ]))
          (refine wpAnyH_take (i := 6) (v := ?_) (by (simp only [List.getElem?_toArray, List.getElem?_cons_succ, List.getElem?_cons_zero]; rfl)) (by kernel_rfl) (by kernel_rfl) (by kernel_rfl) (by exact fun _ _ _ h => h) (Or.inl ⟨by rfl, ?_⟩) (by assumption) ?_; (rotate_left 1; (intro w hSw; (try dsimp only at hSw); go_simp); (try with_reducible rfl)); (try simp only [Act.put, List.setIfInBounds_toArray, List.set_cons_zero, List.set_cons_succ]))
          (refine wpAnyH_take (i := 7) (v := ?_) (by (simp only [List.getElem?_toArray, List.getElem?_cons_succ, List.getElem?_cons_zero]; rfl)) (by kernel_rfl) (by kernel_rfl) (by kernel_rfl) (by exact fun _ _ _ h => h) (Or.inl ⟨by rfl, ?_⟩) (by assumption) ?_; (rotate_left 1; (intro w hSw; (try dsimp only at hSw); go_simp); (try with_reducible rfl)); (try simp only [Act.put, List.setIfInBounds_toArray, List.set_cons_zero, List.set_cons_succ]))
          (refine wpAnyH_take (i := 8) (v := ?_) (by (simp only [List.getElem?_toArray, List.getElem?_cons_succ, List.getElem?_cons_zero]; rfl)) (by kernel_rfl) (by kernel_rfl) (by kernel_rfl) (by exact fun _ _ _ h => h) (Or.inl ⟨by rfl, ?_⟩) (by assumption) ?_; (rotate_left 1; (intro w hSw; (try dsimp only at hSw); go_simp); (try with_reducible rfl)); (try simp only [Act.put, List.setIfInBounds_toArray, List.set_cons_zero, List.set_cons_succ]))
          (refine wpAnyH_take (i := 9) (v := ?_) (by (simp only [List.getElem?_toArray, List.getElem?_cons_succ, List.getElem?_cons_zero]; rfl)) (by kernel_rfl) (by kernel_rfl) (by kernel_rfl) (by exact fun _ _ _ h => h) (Or.inl ⟨by rfl, ?_⟩) (by assumption) ?_; (rotate_left 1; (intro w hSw; (try dsimp only at hSw); go_simp); (try with_reducible rfl)); (try simp only [Act.put, List.setIfInBounds_toArray, List.set_cons_zero, List.set_cons_succ]))
          (refine wpAnyH_take (i := 10) (v := ?_) (by (simp only [List.getElem?_toArray, List.getElem?_cons_succ, List.getElem?_cons_zero]; rfl)) (by kernel_rfl) (by kernel_rfl) (by kernel_rfl) (by exact fun _ _ _ h => h) (Or.inl ⟨by rfl, ?_⟩) (by assumption) ?_; (rotate_left 1; (intro w hSw; (try dsimp only at hSw); go_simp); (try with_reducible rfl)); (try simp only [Act.put, List.setIfInBounds_toArray, List.set_cons_zero, List.set_cons_succ]))
          (refine wpAnyH_take (i := 11) (v := ?_) (by (simp only [List.getElem?_toArray, List.getElem?_cons_succ, List.getElem?_cons_zero]; rfl)) (by kernel_rfl) (by kernel_rfl) (by kernel_rfl) (by exact fun _ _ _ h => h) (Or.inl ⟨by rfl, ?_⟩) (by assumption) ?_; (rotate_left 1; (intro w hSw; (try dsimp only at hSw); go_simp); (try with_reducible rfl)); (try simp only [Act.put, List.setIfInBounds_toArray, List.set_cons_zero, List.set_cons_succ]))
          refine wpAnyH_ready (rs := [12]) (by kernel_rfl) (by simp) ?_
          refine AllReadyH.cons rfl (fun K hK => ?_) AllReadyH.nil
          go_simp
          go_at_call 48
          refine (itoa_any (IntKind.i64.wrap (tk - gk)) hiw.1 hiw.2 _ (ht.below hyD)).mono ?_
          rintro e w6 ⟨rfl, hb⟩
          have hoD := own_keep hoD hb
          have hyD := below_up hyD hb
          unfold encStr
          clear hb
          go_wp2_with fail
          refine hK.out _ _ (⟨⟨(kA.below hyD).two_.1, (hyD.cell sz).trans s0⟩, (hyD.cell gz).trans g0⟩) (fun hHeld => ?_)
          clear hK K
          (try simp only [Act.put, List.setIfInBounds_toArray, List.set_cons_zero, List.set_cons_succ])
          (refine wpAnyH_take (i := 13) (v := ?_) (by (simp only [List.getElem?_toArray, List.getElem?_cons_succ, List.getElem?_cons_zero]; rfl)) (by kernel_rfl) (by kernel_rfl) (by kernel_rfl) (by exact fun _ _ _ h => h) (Or.inl ⟨by rfl, ?_⟩) (by assumption) ?_; (rotate_left 1; (intro w hSw; (try dsimp only at hSw); go_simp); (try with_reducible rfl)); (try simp only [Act.put, List.setIfInBounds_toArray, List.set_cons_zero, List.set_cons_succ]))
          refine wpAnyH_ready (rs := [14]) (by kernel_rfl) (by simp) ?_
          refine AllReadyH.cons rfl (fun K hK => ?_) AllReadyH.nil
          go_simp
          have hby : Blk (w6.alloc (.cells #[.string ⟨z.toArray⟩, .string ⟨(Lib.itoa (IntKind.i64.wrap (tk - gk))).toArray⟩] 52)) w6.heap.size 52 #[.string ⟨z.toArray⟩, .string ⟨(Lib.itoa (IntKind.i64.wrap (tk - gk))).toArray⟩] := Blk.new _ _ _
          have hoD := hoD.alloc (.cells #[.string ⟨z.toArray⟩, .string ⟨(Lib.itoa (IntKind.i64.wrap (tk - gk))).toArray⟩] 52)
          have hyD := Below.alloc hyD hyD.size (.cells #[.string ⟨z.toArray⟩, .string ⟨(Lib.itoa (IntKind.i64.wrap (tk - gk))).toArray⟩] 52)
          refine hK.out _ _ (⟨⟨(kA.below hyD).two_.1, (hyD.cell sz).trans s0⟩, (hyD.cell gz).trans g0⟩) (fun hHeld => ?_)
          clear hK K
          (try simp only [Act.put, List.setIfInBounds_toArray, List.set_cons_zero, List.set_cons_succ])
          refine wpAnyH_ready (rs := [15]) (by kernel_rfl) (by simp) ?_
          refine AllReadyH.cons rfl (fun K hK => ?_) AllReadyH.nil
          refine step_app (lo := 0) (base := w5.heap.size) (n := (savL segs t g k).length) (xs := pr2 (savL segs t g k)) _ rfl _ _ ty_pairs rfl hoD rfl (Row.lit (n := 1) (size := 2) hby (Nat.zero_le _) rfl) rfl rfl (by omega) (by omega) hyD.size ?_
          intro A5 c5 w7 hown5 hg5 _
          have hyD := below_app hoD hyD hg5 (Nat.le_refl _) hyD.size
          have hown9 : w7.ownsRow w5.heap.size 52 2 (.slice A5 ((savL segs t g k).length + 1) c5) ((savL segs t g k).length + 1) (pr2 (savL segs t g k ++ [(z, Lib.itoa (IntKind.i64.wrap (tk - gk)))])) := by
            rw [pr2_app]; exact hown5
          clear hoD hown5 hby hg5
          refine hK.out _ _ (⟨⟨(kA.below hyD).two_.1, (hyD.cell sz).trans s0⟩, (hyD.cell gz).trans g0⟩) (fun hHeld => ?_)
          clear hK K
          (try simp only [Act.put, List.setIfInBounds_toArray, List.set_cons_zero, List.set_cons_succ])
          (refine wpAnyH_take (i := 16) (v := ?_) (by (simp only [List.getElem?_toArray, List.getElem?_cons_succ, List.getElem?_cons_zero]; rfl)) (by kernel_rfl) (by kernel_rfl) (by kernel_rfl) (by exact fun _ _ _ h => h) (Or.inl ⟨by rfl, ?_⟩) (by assumption) ?_; (rotate_left 1; (intro w hSw; (try dsimp only at hSw); go_simp); (try with_reducible rfl)); (try simp only [Act.put, List.setIfInBounds_toArray, List.set_cons_zero, List.set_cons_succ]))
          refine wpAnyH_done (by kernel_rfl) ?_ _
          clear hHeld
          go_wp2_with fail
          go_roundw
          case rel => exact ⟨k + 1, A5, c5, by omega, by go_num, by rw [HQ.out, List.length_append]; rfl, by rw [HQ.out, List.length_append]; exact hown9, hyD⟩
          case measure => simp [intOf]; omega
        · have dp : decide (0 < t[k]) = false := by simpa using hp
          have dgt : decide (t[k] > 0) = false := by simpa using hp
          have HQ := Lib.hid (HNO.out hp)
          clear HYES HNO hp
          generalize t[k] = tk at *
          go_wp2_with fail
          go_roundw
          case rel => exact ⟨k + 1, A', cc, by omega, by go_num, by rw [HQ.out], by rw [HQ.out]; exact ho, hy⟩
          case measure => simp [intOf]; omega
      · have hke : k = t.length := by omega
        subst hke
        have hts : t.length = segs.length := by omega
        go_wp2_with fail
        go_returns
        obtain ⟨v1, v2⟩ := HV.out
        rw [v1, v2, ← hts]
        exact ⟨A', cc, rfl, (Row.of_own ho).weak hzx, below_up hx hy⟩
end Go.Proofs.YtapjahbflhingaaGreatDoor
