/- Texts of this seat, laid together: Hu. -/
import Derived.Deep.DeepCutAuto
import Derived.Test.YtagghmfhfboejaaGreatDoorBu30
import Derived.Test.YtagghmfhfboejaaGreatDoorBu23
import Derived.Test.YtagghmfhfboejaaGreatDoorBu03
/- The walk of segment.Possible at a right history and right splits. -/
namespace Go.Proofs.YtagghmfhfboejaaGreatDoor
set_option linter.unusedVariables false
set_option linter.unusedSimpArgs false
open Go.RowKit Go.Sort

def possN (segs : List (List UInt8)) (atts : List Att) (live : List Int) : Int := if lvV (stepsA atts) segs.length live.length < 0 then 0 else if live.length = 0 then lvV (stepsA atts) segs.length live.length else lvV (stepsA atts) segs.length live.length + lastT (0, live)
def possB (segs : List (List UInt8)) (atts : List Att) (live : List Int) : Bool := decide (0 ≤ lvV (stepsA atts) segs.length live.length)
theorem possN_eq (segs : List (List UInt8)) (atts : List Att) (live : List Int) : possN segs atts live = if lvV (stepsA atts) segs.length live.length < 0 then 0 else if live.length = 0 then lvV (stepsA atts) segs.length live.length else lvV (stepsA atts) segs.length live.length + lastT (0, live) := rfl
set_option maxHeartbeats 4000000 in
set_option maxRecDepth 100000 in
theorem Possible_ok (SA TA B : Option Addr) (c d cB lo lo2 : Nat) (live : List Int) (segs : List (List UInt8)) (atts : List Att) (w : World) (hh : Hist w lo SA TA segs atts) (hc : segs.length ≤ c) (hok : HistOk segs atts) (hrL : Row w lo2 1 B live.length (ints live)) (hls : SplOk segs.length live) :
    Calls Tryz.prog 31 #[.agg #[.slice SA segs.length c, .slice TA atts.length d], .slice B live.length cB] w fun e w' => e = .returned (.tuple #[.int .i64 (possN segs atts live), .bool (possB segs atts live), .int .i64 0]) ∧ Below w.heap.size w w' := by
  have HO := Lib.hid hok
  have HL := Lib.hid hls
  have n1 := hok.n1
  have n2 := hok.n2
  have hlen := hls.len
  clear hok hls
  go_enter Tryz.func31, Tryz.ntmps31
  go_upto_region 1 with (fail)
  have hx : Below w.heap.size w (w.alloc (.cells #[.slice SA segs.length c, .slice TA atts.length d] 29)) := (Below.refl _ _).alloc (Nat.le_refl _) _
  have hk : Blk (w.alloc (.cells #[.slice SA segs.length c, .slice TA atts.length d] 29)) w.heap.size 29 #[.slice SA segs.length c, .slice TA atts.length d] := Blk.new _ _ _
  have hh := hh.alloc (.cells #[.slice SA segs.length c, .slice TA atts.length d] 29)
  have hrL := hrL.alloc (.cells #[.slice SA segs.length c, .slice TA atts.length d] 29)
  generalize w.alloc (.cells #[.slice SA segs.length c, .slice TA atts.length d] 29) = w0 at *
  have hb : Below w0.heap.size w0 w0.drew := (Below.refl _ _).drew
  have hh := hh.below hb
  have hk := hk.below hb
  have hx := below_up hx hb
  have hrL := hrL.below hb
  clear hb
  refine wp_region_held_drew (S := (fun w' => w'.cell? ⟨w.heap.size, 0, none⟩ = some (.slice SA segs.length c) ∧ w'.cell? ⟨w.heap.size, 1, none⟩ = some (.slice TA atts.length d))) (by kernel_rfl) (hk.two_) (fun hHeld => ?_)
  (refine wpAnyH_take (i := 0) (v := ?_) (by (simp only [List.getElem?_toArray, List.getElem?_cons_zero]; rfl)) (by kernel_rfl) (by kernel_rfl) (by kernel_rfl) (by exact fun _ _ _ h => h) (Or.inl ⟨by rfl, ?_⟩) (by assumption) ?_; (rotate_left 1; (intro w hSw; (try dsimp only at hSw); go_simp); (try with_reducible rfl)); (try simp only [Act.put, List.setIfInBounds_toArray, List.set_cons_zero, List.set_cons_succ]))
  (refine wpAnyH_take (i := 2) (v := ?_) (by (simp only [List.getElem?_toArray, List.getElem?_cons_succ, List.getElem?_cons_zero]; rfl)) (by kernel_rfl) (by kernel_rfl) (by kernel_rfl) (by exact fun _ _ _ h => h) (Or.inl ⟨by rfl, ?_⟩) (by assumption) ?_; (rotate_left 1; (intro w hSw; (try dsimp only at hSw); go_simp); (try with_reducible rfl)); (try simp only [Act.put, List.setIfInBounds_toArray, List.set_cons_zero, List.set_cons_succ]))
  (refine wpAnyH_take (i := 3) (v := ?_) (by (simp only [List.getElem?_toArray, List.getElem?_cons_succ, List.getElem?_cons_zero]; rfl)) (by kernel_rfl) (by kernel_rfl) (by kernel_rfl) (by exact fun _ _ _ h => h) (Or.inl ⟨by rfl, ?_⟩) (by assumption) ?_; (rotate_left 1; (intro w hSw; (try dsimp only at hSw); go_simp); (try with_reducible rfl)); (try simp only [Act.put, List.setIfInBounds_toArray, List.set_cons_zero, List.set_cons_succ]))
  (refine wpAnyH_take (i := 5) (v := ?_) (by (simp only [List.getElem?_toArray, List.getElem?_cons_succ, List.getElem?_cons_zero]; rfl)) (by kernel_rfl) (by kernel_rfl) (by kernel_rfl) (by exact fun _ _ _ h => h) (Or.inl ⟨by rfl, ?_⟩) (by assumption) ?_; (rotate_left 1; (intro w hSw; (try dsimp only at hSw); go_simp); (try with_reducible rfl)); (try simp only [Act.put, List.setIfInBounds_toArray, List.set_cons_zero, List.set_cons_succ]))
  refine wpAnyH_ready (rs := [1, 4]) (by kernel_rfl) (by simp) ?_
  refine AllReadyH.cons rfl (fun K hK => ?_) (AllReadyH.cons rfl (fun K hK => ?_) AllReadyH.nil)
  case refine_1 =>
    go_simp
    go_at_call 10
    refine (checkHistory_ok _ _ _ _ _ segs atts _ hh hc HO.out).mono ?_
    rintro e w1 ⟨rfl, hb⟩
    have hh := hh.below hb
    have hk := hk.below hb
    have hx := below_up hx hb
    have hrL := hrL.below hb
    clear hb
    go_wp2_with fail
    refine hK.out _ _ (hk.two_) (fun hHeld => ?_)
    clear hK K
    (try simp only [Act.put, List.setIfInBounds_toArray, List.set_cons_zero, List.set_cons_succ])
    refine wpAnyH_ready (rs := [4]) (by kernel_rfl) (by simp) ?_
    refine AllReadyH.cons rfl (fun K hK => ?_) AllReadyH.nil
    go_simp
    refine hK.out _ _ (hk.two_) (fun hHeld => ?_)
    clear hK K
    (try simp only [Act.put, List.setIfInBounds_toArray, List.set_cons_zero, List.set_cons_succ])
    refine wpAnyH_ready (rs := [6]) (by kernel_rfl) (by simp) ?_
    refine AllReadyH.cons rfl (fun K hK => ?_) AllReadyH.nil
    go_simp
    go_at_call 59
    refine (splitsFault_ok segs.length B _ _ live _ hrL (by omega) HL.out).mono ?_
    rintro e w2 ⟨rfl, rfl⟩
    go_wp2_with fail
    refine hK.out _ _ (hk.two_) (fun hHeld => ?_)
    clear hK K
    (try simp only [Act.put, List.setIfInBounds_toArray, List.set_cons_zero, List.set_cons_succ])
    refine wpAnyH_ready (rs := [7]) (by kernel_rfl) (by simp) ?_
    refine AllReadyH.cons rfl (fun K hK => ?_) AllReadyH.nil
    go_simp
    have hrow := row_new w1 #[.int .i64 0, .int .i64 0] 32 w1.heap.size 1 2 (Nat.le_refl _) rfl
    have hb : Below w1.heap.size w1 (w1.alloc (.cells #[.int .i64 0, .int .i64 0] 32)) := (Below.refl _ _).alloc (Nat.le_refl _) _
    have hh := hh.below hb
    have hk := hk.below hb
    have hx := below_up hx hb
    have hrL := hrL.below hb
    clear hb
    refine hK.out _ _ (hk.two_) (fun hHeld => ?_)
    clear hK K
    (try simp only [Act.put, List.setIfInBounds_toArray, List.set_cons_zero, List.set_cons_succ])
    refine wpAnyH_ready (rs := [8]) (by kernel_rfl) (by simp) ?_
    refine AllReadyH.cons rfl (fun K hK => ?_) AllReadyH.nil
    go_simp
    go_at_call 72
    refine (first_any _ _ _ [0, 0] _ hrow (by decide)).mono ?_
    rintro e w2 ⟨rfl, rfl⟩
    go_wp2_with fail
    refine hK.out _ _ (hk.two_) (fun hHeld => ?_)
    clear hK K
    (try simp only [Act.put, List.setIfInBounds_toArray, List.set_cons_zero, List.set_cons_succ])
    (refine wpAnyH_take (i := 9) (v := ?_) (by (simp only [List.getElem?_toArray, List.getElem?_cons_succ, List.getElem?_cons_zero]; rfl)) (by kernel_rfl) (by kernel_rfl) (by kernel_rfl) (by exact fun _ _ _ h => h) (Or.inl ⟨by rfl, ?_⟩) (by assumption) ?_; (rotate_left 1; (intro w hSw; (try dsimp only at hSw); go_simp); (try with_reducible rfl)); (try simp only [Act.put, List.setIfInBounds_toArray, List.set_cons_zero, List.set_cons_succ]))
    refine wpAnyH_done (by kernel_rfl) ?_ _
    clear hHeld
    have hzk := hk.lt
    generalize (w1.alloc (.cells #[.int .i64 0, .int .i64 0] 32)) = w3 at *
    have HF0 : Hid (firstE [0, 0] = 0) := Lib.hid rfl
    rw [HF0.out]
    go_wp2_with fail
    refine (leasts_ok _ _ _ _ _ _ segs atts _ hk hh HO.out).mono ?_
    rintro e w4 ⟨g, c2, rfl, hg, hob, hb⟩
    have hh := hh.below hb
    have hk := hk.below hb
    have hx := below_up hx hb
    have hrL := hrL.below hb
    clear hb
    have hll := outL_len (lvV (stepsA atts) segs.length) (stepsA atts) segs.length
    have c0 := hob.cell live.length (by omega)
    rw [outL_at, outP_all (stepsA_fwd HO.out).1 (List.Perm.refl _) live.length (by omega)] at c0
    have hgl := hob.lt
    have g1 := lvV_ge (stepsA_fwd HO.out).1 live.length (by omega)
    have g2 := lvV_le (stepsA_fwd HO.out).1 (stepsA_fwd HO.out).2.2 (segs.length - live.length) live.length rfl (by omega)
    have HPN := Lib.hid (show possN segs atts live = possN segs atts live from rfl)
    unfold possN at HPN
    have HPB : Hid (possB segs atts live = decide (0 ≤ lvV (stepsA atts) segs.length live.length)) := Lib.hid rfl
    have hPN := possN_eq segs atts live
    have HPE := Lib.hid hPN
    clear hPN HPN hob hll
    generalize lvV (stepsA atts) segs.length live.length = v at *
    have hlc : live.length < segs.length + 1 := by omega
    rcases Int.lt_or_le v 0 with hv | hv
    · have q : decide (v < 0) = true := by simpa using hv
      have HN : Hid (possN segs atts live = 0) := Lib.hid (by rw [HPE.out, if_pos hv])
      have HB : Hid (possB segs atts live = false) := Lib.hid (by rw [HPB.out]; simp; omega)
      clear HPE HPB
      go_wp2_with fail
      go_returns
      exact ⟨by rw [HN.out, HB.out]; rfl, hx⟩
    · have q : decide (v < 0) = false := by simpa using hv
      have HB : Hid (possB segs atts live = true) := Lib.hid (by rw [HPB.out]; simpa using hv)
      by_cases h0 : live.length = 0
      · have HN : Hid (possN segs atts live = v) := Lib.hid (by rw [HPE.out, if_neg (show ¬ v < 0 by omega), if_pos h0])
        have d0 : decide (0 < live.length) = false := decide_eq_false (by omega)
        clear HPE HPB h0
        go_wp2_with fail
        go_returns
        exact ⟨by rw [HN.out, HB.out]; rfl, hx⟩
      · obtain ⟨l, hl⟩ : ∃ l, l + 1 = live.length := ⟨live.length - 1, by omega⟩
        have hl1 : l < live.length := by omega
        obtain ⟨b5, o5, rfl, _, zb5, x5⟩ := hrL.int_at hl1
        have bd := HL.out.bd l hl1
        have HN : Hid (possN segs atts live = v + live[l]) := Lib.hid (by
          rw [HPE.out, if_neg (show ¬ v < 0 by omega), if_neg h0]
          congr 1
          unfold lastT
          have : live.length - 1 = l := by omega
          simp only [this]
          exact getD_is hl1)
        have d0 : decide (0 < live.length) = true := by simp; omega
        have hlv60 : live.length ≤ 60 := by omega
        have g3 : v ≤ 60000000000 := by omega
        have wl : IntKind.i64.wrap ((live.length : Int) - 1) = (l : Int) := by rw [IntWalk.i64_in _ ⟨by omega, by omega⟩]; omega
        generalize live[l] = x at *
        have wx : IntKind.i64.wrap (v + x) = v + x := IntWalk.i64_in _ (by omega)
        clear HPE HPB
        go_wp2_with fail
        go_returns
        exact ⟨by rw [HN.out, HB.out]; rfl, hx⟩
  case refine_2 =>
    go_simp
    refine hK.out _ _ (hk.two_) (fun hHeld => ?_)
    clear hK K
    (try simp only [Act.put, List.setIfInBounds_toArray, List.set_cons_zero, List.set_cons_succ])
    refine wpAnyH_ready (rs := [1]) (by kernel_rfl) (by simp) ?_
    refine AllReadyH.cons rfl (fun K hK => ?_) AllReadyH.nil
    go_simp
    go_at_call 10
    refine (checkHistory_ok _ _ _ _ _ segs atts _ hh hc HO.out).mono ?_
    rintro e w1 ⟨rfl, hb⟩
    have hh := hh.below hb
    have hk := hk.below hb
    have hx := below_up hx hb
    have hrL := hrL.below hb
    clear hb
    go_wp2_with fail
    refine hK.out _ _ (hk.two_) (fun hHeld => ?_)
    clear hK K
    (try simp only [Act.put, List.setIfInBounds_toArray, List.set_cons_zero, List.set_cons_succ])
    refine wpAnyH_ready (rs := [6]) (by kernel_rfl) (by simp) ?_
    refine AllReadyH.cons rfl (fun K hK => ?_) AllReadyH.nil
    go_simp
    go_at_call 59
    refine (splitsFault_ok segs.length B _ _ live _ hrL (by omega) HL.out).mono ?_
    rintro e w2 ⟨rfl, rfl⟩
    go_wp2_with fail
    refine hK.out _ _ (hk.two_) (fun hHeld => ?_)
    clear hK K
    (try simp only [Act.put, List.setIfInBounds_toArray, List.set_cons_zero, List.set_cons_succ])
    refine wpAnyH_ready (rs := [7]) (by kernel_rfl) (by simp) ?_
    refine AllReadyH.cons rfl (fun K hK => ?_) AllReadyH.nil
    go_simp
    have hrow := row_new w1 #[.int .i64 0, .int .i64 0] 32 w1.heap.size 1 2 (Nat.le_refl _) rfl
    have hb : Below w1.heap.size w1 (w1.alloc (.cells #[.int .i64 0, .int .i64 0] 32)) := (Below.refl _ _).alloc (Nat.le_refl _) _
    have hh := hh.below hb
    have hk := hk.below hb
    have hx := below_up hx hb
    have hrL := hrL.below hb
    clear hb
    refine hK.out _ _ (hk.two_) (fun hHeld => ?_)
    clear hK K
    (try simp only [Act.put, List.setIfInBounds_toArray, List.set_cons_zero, List.set_cons_succ])
    refine wpAnyH_ready (rs := [8]) (by kernel_rfl) (by simp) ?_
    refine AllReadyH.cons rfl (fun K hK => ?_) AllReadyH.nil
    go_simp
    go_at_call 72
    refine (first_any _ _ _ [0, 0] _ hrow (by decide)).mono ?_
    rintro e w2 ⟨rfl, rfl⟩
    go_wp2_with fail
    refine hK.out _ _ (hk.two_) (fun hHeld => ?_)
    clear hK K
    (try simp only [Act.put, List.setIfInBounds_toArray, List.set_cons_zero, List.set_cons_succ])
    (refine wpAnyH_take (i := 9) (v := ?_) (by (simp only [List.getElem?_toArray, List.getElem?_cons_succ, List.getElem?_cons_zero]; rfl)) (by kernel_rfl) (by kernel_rfl) (by kernel_rfl) (by exact fun _ _ _ h => h) (Or.inl ⟨by rfl, ?_⟩) (by assumption) ?_; (rotate_left 1; (intro w hSw; (try dsimp only at hSw); go_simp); (try with_reducible rfl)); (try simp only [Act.put, List.setIfInBounds_toArray, List.set_cons_zero, List.set_cons_succ]))
    refine wpAnyH_done (by kernel_rfl) ?_ _
    clear hHeld
    have hzk := hk.lt
    generalize (w1.alloc (.cells #[.int .i64 0, .int .i64 0] 32)) = w3 at *
    have HF0 : Hid (firstE [0, 0] = 0) := Lib.hid rfl
    rw [HF0.out]
    go_wp2_with fail
    refine (leasts_ok _ _ _ _ _ _ segs atts _ hk hh HO.out).mono ?_
    rintro e w4 ⟨g, c2, rfl, hg, hob, hb⟩
    have hh := hh.below hb
    have hk := hk.below hb
    have hx := below_up hx hb
    have hrL := hrL.below hb
    clear hb
    have hll := outL_len (lvV (stepsA atts) segs.length) (stepsA atts) segs.length
    have c0 := hob.cell live.length (by omega)
    rw [outL_at, outP_all (stepsA_fwd HO.out).1 (List.Perm.refl _) live.length (by omega)] at c0
    have hgl := hob.lt
    have g1 := lvV_ge (stepsA_fwd HO.out).1 live.length (by omega)
    have g2 := lvV_le (stepsA_fwd HO.out).1 (stepsA_fwd HO.out).2.2 (segs.length - live.length) live.length rfl (by omega)
    have HPN := Lib.hid (show possN segs atts live = possN segs atts live from rfl)
    unfold possN at HPN
    have HPB : Hid (possB segs atts live = decide (0 ≤ lvV (stepsA atts) segs.length live.length)) := Lib.hid rfl
    have hPN := possN_eq segs atts live
    have HPE := Lib.hid hPN
    clear hPN HPN hob hll
    generalize lvV (stepsA atts) segs.length live.length = v at *
    have hlc : live.length < segs.length + 1 := by omega
    rcases Int.lt_or_le v 0 with hv | hv
    · have q : decide (v < 0) = true := by simpa using hv
      have HN : Hid (possN segs atts live = 0) := Lib.hid (by rw [HPE.out, if_pos hv])
      have HB : Hid (possB segs atts live = false) := Lib.hid (by rw [HPB.out]; simp; omega)
      clear HPE HPB
      go_wp2_with fail
      go_returns
      exact ⟨by rw [HN.out, HB.out]; rfl, hx⟩
    · have q : decide (v < 0) = false := by simpa using hv
      have HB : Hid (possB segs atts live = true) := Lib.hid (by rw [HPB.out]; simpa using hv)
      by_cases h0 : live.length = 0
      · have HN : Hid (possN segs atts live = v) := Lib.hid (by rw [HPE.out, if_neg (show ¬ v < 0 by omega), if_pos h0])
        have d0 : decide (0 < live.length) = false := decide_eq_false (by omega)
        clear HPE HPB h0
        go_wp2_with fail
        go_returns
        exact ⟨by rw [HN.out, HB.out]; rfl, hx⟩
      · obtain ⟨l, hl⟩ : ∃ l, l + 1 = live.length := ⟨live.length - 1, by omega⟩
        have hl1 : l < live.length := by omega
        obtain ⟨b5, o5, rfl, _, zb5, x5⟩ := hrL.int_at hl1
        have bd := HL.out.bd l hl1
        have HN : Hid (possN segs atts live = v + live[l]) := Lib.hid (by
          rw [HPE.out, if_neg (show ¬ v < 0 by omega), if_neg h0]
          congr 1
          unfold lastT
          have : live.length - 1 = l := by omega
          simp only [this]
          exact getD_is hl1)
        have d0 : decide (0 < live.length) = true := by simp; omega
        have hlv60 : live.length ≤ 60 := by omega
        have g3 : v ≤ 60000000000 := by omega
        have wl : IntKind.i64.wrap ((live.length : Int) - 1) = (l : Int) := by rw [IntWalk.i64_in _ ⟨by omega, by omega⟩]; omega
        generalize live[l] = x at *
        have wx : IntKind.i64.wrap (v + x) = v + x := IntWalk.i64_in _ (by omega)
        clear HPE HPB
        go_wp2_with fail
        go_returns
        exact ⟨by rw [HN.out, HB.out]; rfl, hx⟩
end Go.Proofs.YtagghmfhfboejaaGreatDoor
