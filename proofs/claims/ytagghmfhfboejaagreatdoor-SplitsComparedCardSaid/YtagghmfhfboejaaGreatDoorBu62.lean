/- Texts of this seat, laid together: LawSplitsCompared. -/
import Derived.Deep.DeepCutAuto
import Derived.Test.YtagghmfhfboejaaGreatDoorBu51
import Derived.Test.YtagghmfhfboejaaGreatDoorBu54
import Derived.Test.YtagghmfhfboejaaGreatDoorBu55
import Derived.Test.YtagghmfhfboejaaGreatDoorBu61
import Derived.Test.YtagghmfhfboejaaGreatDoorBu11
import Derived.Test.YtagghmfhfboejaaGreatDoorBu19
import Derived.Test.YtagghmfhfboejaaGreatDoorBu33
/- For every list of numbers the law SplitsCompared returns true and leaves the list as it was: its walk. -/
namespace Go.Proofs.YtagghmfhfboejaaGreatDoor
set_option linter.unusedVariables false
set_option linter.unusedSimpArgs false
open Go.RowKit Go.Sort

theorem row_str {W : World} {g N : Nat} {cs : Array Value} {e : TypeId} (_ : Str (W.alloc (.cells cs e)) g N) (lo size n : Nat) (hlo : lo ≤ W.heap.size) (hn : cs.size = n * size) : Row (W.alloc (.cells cs e)) lo size (some ⟨W.heap.size, 0, none⟩) n cs.toList := row_new W cs e lo size n hlo hn
/-! ### the four functions at a right history, whatever else comes -/
def sO (n : Nat) (atts : List Att) (how : Int) : Option (List Int) := if howE how = 0 then cmpO n atts how else none
theorem Splits_un (SA TA : Option Addr) (c d lo : Nat) (how : Int) (segs : List (List UInt8)) (atts : List Att) (w : World) (hh : Hist w lo SA TA segs atts) (hz : HistSz segs atts c) (hok : HistOk segs atts) :
    Calls Tryz.prog 29 #[.agg #[.slice SA segs.length c, .slice TA atts.length d], .int .i64 how] w fun e w' => ∃ A' c', e = .returned (.tuple #[.slice A' (optL (sO segs.length atts how)).length c', .bool (sO segs.length atts how).isSome, .int .i64 (howE how)]) ∧ Row w' 0 1 A' (optL (sO segs.length atts how)).length (ints (optL (sO segs.length atts how))) ∧ Below w.heap.size w w' := by
  have e1 := hfE_ok (how := how) (histF_zero hok)
  by_cases h : howE how = 0
  · have e2 : sO segs.length atts how = cmpO segs.length atts how := by unfold sO; rw [if_pos h]
    rw [e2]
    refine (Splits_ok SA TA c d lo how segs atts w hh hz hok (by rw [e1, h])).mono ?_
    rintro e w' ⟨A', c', rfl, ho, hb⟩
    exact ⟨A', c', by rw [h], (Row.of_own ho).weak (Nat.zero_le _), hb⟩
  · have e2 : sO segs.length atts how = none := by unfold sO; rw [if_neg h]
    rw [e2]
    refine (Splits_bad SA TA c d lo how segs atts w hh hz (by rw [e1]; exact h)).mono ?_
    rintro e w' ⟨rfl, hb⟩
    exact ⟨none, 0, by rw [e1]; rfl, Row.none_ _ _ _ _, hb⟩
def twoE (segs : List (List UInt8)) (how : Int) (live : List Int) : Int := firstE [howE how, splF segs.length live]
def dL (segs : List (List UInt8)) (atts : List Att) (how : Int) (live : List Int) : List Dlt := if twoE segs how live = 0 then cdL segs atts how live else []
def dB (segs : List (List UInt8)) (atts : List Att) (how : Int) (live : List Int) : Bool := decide (twoE segs how live = 0) && (cmpO segs.length atts how).isSome
theorem twoE_ok {segs : List (List UInt8)} {how : Int} {live : List Int} (h : twoE segs how live = 0) : howE how = 0 ∧ splF segs.length live = 0 := by
  unfold twoE at h
  rw [firstE_two] at h
  split at h
  · rename_i h0; exact ⟨h0, h⟩
  · rename_i h0; exact absurd h h0
theorem Compare_un (SA TA B : Option Addr) (c d cB lo lo2 : Nat) (how : Int) (live : List Int) (segs : List (List UInt8)) (atts : List Att) (w : World) (hh : Hist w lo SA TA segs atts) (hz : HistSz segs atts c) (hrL : Row w lo2 1 B live.length (ints live)) (hl9 : live.length ≤ 1000000000) (hok : HistOk segs atts) :
    Calls Tryz.prog 30 #[.agg #[.slice SA segs.length c, .slice TA atts.length d], .int .i64 how, .slice B live.length cB] w fun e w' => ∃ A' c', e = .returned (.tuple #[.slice A' (dL segs atts how live).length c', .bool (dB segs atts how live), .int .i64 (twoE segs how live)]) ∧ Row w' 0 4 A' (dL segs atts how live).length (dls (dL segs atts how live)) ∧ Below w.heap.size w w' := by
  have e1 : cpE segs atts how live = twoE segs how live := by unfold cpE twoE; rw [hfE_ok (histF_zero hok)]
  by_cases h : twoE segs how live = 0
  · have e2 : dL segs atts how live = cdL segs atts how live := by unfold dL; rw [if_pos h]
    have e3 : dB segs atts how live = (cmpO segs.length atts how).isSome := by unfold dB; rw [decide_eq_true h]; rfl
    rw [e2, e3]
    refine (Compare_ok SA TA B c d cB lo lo2 how live segs atts w hh hz hrL hl9 hok (splF_ok (twoE_ok h).2) (by rw [e1, h])).mono ?_
    rintro e w' ⟨A', c', rfl, ho, hb⟩
    exact ⟨A', c', by rw [h], (Row.of_own ho).weak (Nat.zero_le _), hb⟩
  · have e2 : dL segs atts how live = [] := by unfold dL; rw [if_neg h]
    have e3 : dB segs atts how live = false := by unfold dB; rw [decide_eq_false h]; rfl
    rw [e2, e3]
    refine (Compare_err SA TA B c d cB lo lo2 how live segs atts w hh hz hrL hl9 (by rw [e1]; exact h)).mono ?_
    rintro e w' ⟨rfl, hb⟩
    exact ⟨none, 0, by rw [e1]; rfl, Row.none_ _ _ _ _, hb⟩
def pN (segs : List (List UInt8)) (atts : List Att) (live : List Int) : Int := if splF segs.length live = 0 then possN segs atts live else 0
def pB (segs : List (List UInt8)) (atts : List Att) (live : List Int) : Bool := decide (splF segs.length live = 0) && possB segs atts live
theorem Possible_un (SA TA B : Option Addr) (c d cB lo lo2 : Nat) (live : List Int) (segs : List (List UInt8)) (atts : List Att) (w : World) (hh : Hist w lo SA TA segs atts) (hz : HistSz segs atts c) (hrL : Row w lo2 1 B live.length (ints live)) (hl9 : live.length ≤ 1000000000) (hok : HistOk segs atts) :
    Calls Tryz.prog 31 #[.agg #[.slice SA segs.length c, .slice TA atts.length d], .slice B live.length cB] w fun e w' => e = .returned (.tuple #[.int .i64 (pN segs atts live), .bool (pB segs atts live), .int .i64 (splF segs.length live)]) ∧ Below w.heap.size w w' := by
  have e1 : poE segs atts live = splF segs.length live := by unfold poE; rw [firstE_two, if_pos (histF_zero hok)]
  by_cases h : splF segs.length live = 0
  · have e2 : pN segs atts live = possN segs atts live := by unfold pN; rw [if_pos h]
    have e3 : pB segs atts live = possB segs atts live := by unfold pB; rw [decide_eq_true h]; rfl
    rw [e2, e3, h]
    exact Possible_ok SA TA B c d cB lo lo2 live segs atts w hh hz.hc hok hrL (splF_ok h)
  · have e2 : pN segs atts live = 0 := by unfold pN; rw [if_neg h]
    have e3 : pB segs atts live = false := by unfold pB; rw [decide_eq_false h]; rfl
    rw [e2, e3]
    refine (Possible_err SA TA B c d cB lo lo2 live segs atts w hh hz hrL hl9 (by rw [e1]; exact h)).mono ?_
    rintro e w' ⟨rfl, hb⟩
    exact ⟨by rw [e1], hb⟩
set_option maxHeartbeats 8000000 in
set_option maxRecDepth 100000 in
theorem compared_walk (A : Option Addr) (n c : Nat) (w : World) (hn : n ≤ 9223372036854775807)
    (hz : ∀ k, k < n → ∃ b off z, A = some ⟨b, off, none⟩ ∧ b < w.heap.size ∧ w.cell? ⟨b, off + k, none⟩ = some (.int .i64 z) ∧ I64 z) :
    LawCall 4 A n c w := by
  have hstr := str_make (c := c) hn hz
  clear hz
  have hb0 : Below w.heap.size w (w.alloc (.cells #[.slice A n c, .int .i64 0] 25)) := (Below.refl _ _).alloc (Nat.le_refl _) _
  have hz0 : (w.alloc (.cells #[.slice A n c, .int .i64 0] 25)).heap.size = w.heap.size + 1 := by simp
  go_enter Tryz.func4, Tryz.ntmps4
  go_wp2_with fail
  generalize w.alloc (.cells #[.slice A n c, .int .i64 0] 25) = w0 at *
  have HZ0 := Lib.hid hz0
  clear hz0
  have hgw : w.heap.size < w0.heap.size := by have := HZ0.out; omega
  refine (history_any w.heap.size 0 _ hstr (by omega)).mono ?_
  rintro e w2 ⟨SA, TA, c', d', segs, atts, rfl, hh, hc, n1, n4, hm, hl, hsl, hs1, hg1⟩
  have hz9 : HistSz segs atts c' := ⟨hc, by omega, by omega, fun i h => by have := hl i h; omega, fun s hs => by have := hsl s hs; omega⟩
  clear hl hsl
  go_upto_region 3 with (fail)
  have hk : Blk (w2.alloc (.cells #[.slice SA segs.length c', .slice TA atts.length d'] 29)) w2.heap.size 29 #[.slice SA segs.length c', .slice TA atts.length d'] := Blk.new _ _ _
  have hh := hh.alloc (.cells #[.slice SA segs.length c', .slice TA atts.length d'] 29)
  have hs := hs1.alloc (.cells #[.slice SA segs.length c', .slice TA atts.length d'] 29)
  have hgr := grown_alloc hg1 (.cells #[.slice SA segs.length c', .slice TA atts.length d'] 29)
  have hbx : w.heap.size < w2.heap.size := hs1.lt
  have hs0 := hs1
  clear hs1 hg1
  generalize w2.alloc (.cells #[.slice SA segs.length c', .slice TA atts.length d'] 29) = wcur at *
  generalize w2.heap.size = bx at *
  have hs := hs.drew
  have hh := hh.below (Below.refl _ _).drew
  have hk := hk.below (Below.refl _ _).drew
  have hgr := grown_drew hgr
  go_cut [5, 6, 7, 8] from 39 to 49 (fun s5 s6 s7 s8 wx => ∃ (nm : List UInt8) (pt how : Int) (A4 : Option Addr) (c4 : Nat) (live : List Int), s5 = encStr nm ∧ s6 = .int .i64 pt ∧ s7 = .int .i64 how ∧ s8 = .slice A4 live.length c4 ∧ nm.length ≤ 2 ∧ live.length ≤ 5 ∧ Row wx 0 1 A4 live.length (ints live) ∧ Hist wx w0.heap.size SA TA segs atts ∧ Blk wx bx 29 #[.slice SA segs.length c', .slice TA atts.length d'] ∧ Below w.heap.size w wx)
  case first =>
    refine wp_region_held_drew (S := (fun w' => w'.cell? ⟨bx, 0, none⟩ = some (.slice SA segs.length c') ∧ w'.cell? ⟨bx, 1, none⟩ = some (.slice TA atts.length d'))) (by kernel_rfl) (hk.two_) (fun hHeld => ?_)
    (refine wpAnyH_take (i := 0) (v := ?_) (by (simp only [List.getElem?_toArray, List.getElem?_cons_zero]; rfl)) (by kernel_rfl) (by kernel_rfl) (by kernel_rfl) (by exact fun _ _ _ h => h) (Or.inl ⟨by rfl, ?_⟩) (by assumption) ?_; (rotate_left 1; (intro w hSw; (try dsimp only at hSw); go_simp); (try with_reducible rfl)); (try simp only [Act.put, List.setIfInBounds_toArray, List.set_cons_zero, List.set_cons_succ]))
    (refine wpAnyH_take (i := 3) (v := ?_) (by (simp only [List.getElem?_toArray, List.getElem?_cons_succ, List.getElem?_cons_zero]; rfl)) (by kernel_rfl) (by kernel_rfl) (by kernel_rfl) (by exact fun _ _ _ h => h) (Or.inl ⟨by rfl, ?_⟩) (by assumption) ?_; (rotate_left 1; (intro w hSw; (try dsimp only at hSw); go_simp); (try with_reducible rfl)); (try simp only [Act.put, List.setIfInBounds_toArray, List.set_cons_zero, List.set_cons_succ]))
    (refine wpAnyH_take (i := 6) (v := ?_) (by (simp only [List.getElem?_toArray, List.getElem?_cons_succ, List.getElem?_cons_zero]; rfl)) (by kernel_rfl) (by kernel_rfl) (by kernel_rfl) (by exact fun _ _ _ h => h) (Or.inl ⟨by rfl, ?_⟩) (by assumption) ?_; (rotate_left 1; (intro w hSw; (try dsimp only at hSw); go_simp); (try with_reducible rfl)); (try simp only [Act.put, List.setIfInBounds_toArray, List.set_cons_zero, List.set_cons_succ]))
    (refine wpAnyH_take (i := 8) (v := ?_) (by (simp only [List.getElem?_toArray, List.getElem?_cons_succ, List.getElem?_cons_zero]; rfl)) (by kernel_rfl) (by kernel_rfl) (by kernel_rfl) (by exact fun _ _ _ h => h) (Or.inl ⟨by rfl, ?_⟩) (by assumption) ?_; (rotate_left 1; (intro w hSw; (try dsimp only at hSw); go_simp); (try with_reducible rfl)); (try simp only [Act.put, List.setIfInBounds_toArray, List.set_cons_zero, List.set_cons_succ]))
    (refine wpAnyH_take (i := 9) (v := ?_) (by (simp only [List.getElem?_toArray, List.getElem?_cons_succ, List.getElem?_cons_zero]; rfl)) (by kernel_rfl) (by kernel_rfl) (by kernel_rfl) (by exact fun _ _ _ h => h) (Or.inl ⟨by rfl, ?_⟩) (by assumption) ?_; (rotate_left 1; (intro w hSw; (try dsimp only at hSw); go_simp); (try with_reducible rfl)); (try simp only [Act.put, List.setIfInBounds_toArray, List.set_cons_zero, List.set_cons_succ]))
    refine wpAnyH_ready (rs := [1, 4]) (by kernel_rfl) (by simp) ?_
    refine AllReadyH.cons rfl (fun K hK => ?_) (AllReadyH.cons rfl (fun K hK => ?_) AllReadyH.nil)
    case refine_1 =>
      go_simp
      have hlt9 := hs.lt
      have hs := hs.alloc (.cells #[.string ⟨#[97, 97]⟩, .string ⟨#[98, 98]⟩, .string ⟨#[122, 122]⟩] 9)
      have hk := hk.alloc (.cells #[.string ⟨#[97, 97]⟩, .string ⟨#[98, 98]⟩, .string ⟨#[122, 122]⟩] 9)
      have hh := hh.alloc (.cells #[.string ⟨#[97, 97]⟩, .string ⟨#[98, 98]⟩, .string ⟨#[122, 122]⟩] 9)
      have hgr := grown_alloc hgr (.cells #[.string ⟨#[97, 97]⟩, .string ⟨#[98, 98]⟩, .string ⟨#[122, 122]⟩] 9)
      have hr1 : Row _ (w.heap.size + 1) 1 _ ([[97, 97], [98, 98], [122, 122]] : List (List UInt8)).length (strs [[97, 97], [98, 98], [122, 122]]) := row_str hs (w.heap.size + 1) 1 3 (by omega) rfl
      (try simp only [World.size_alloc] at hr1)
      refine hK.out _ _ (hk.two_) (fun hHeld => ?_)
      clear hK K
      (try simp only [Act.put, List.setIfInBounds_toArray, List.set_cons_zero, List.set_cons_succ])
      refine wpAnyH_ready (rs := [2, 4]) (by kernel_rfl) (by simp) ?_
      refine AllReadyH.cons rfl (fun K hK => ?_) (AllReadyH.cons rfl (fun K hK => ?_) AllReadyH.nil)
      case refine_1 =>
        go_simp
        go_at_call 25
        refine (some_any w.heap.size _ _ _ _ [[97, 97], [98, 98], [122, 122]] _ hs (by omega) hr1 (by omega) (by decide) (by decide)).mono ?_
        rintro e wcur ⟨nm, rfl, hnm, hs, hgS⟩
        have hk := hk.stream hgS hbx
        have hh := hh.stream hgS hgw
        have hgr := grown_trans' hgr hgS
        clear hgS
        go_wp2_with fail
        refine hK.out _ _ (hk.two_) (fun hHeld => ?_)
        clear hK K
        (try simp only [Act.put, List.setIfInBounds_toArray, List.set_cons_zero, List.set_cons_succ])
        refine wpAnyH_ready (rs := [4]) (by kernel_rfl) (by simp) ?_
        refine AllReadyH.cons rfl (fun K hK => ?_) AllReadyH.nil
        go_simp
        have hlt9 := hs.lt
        have hs := hs.alloc (.cells #[.int .i64 0, .int .i64 500, .int .i64 1000, .int .i64 333, .int .i64 (-1), .int .i64 1001] 3)
        have hk := hk.alloc (.cells #[.int .i64 0, .int .i64 500, .int .i64 1000, .int .i64 333, .int .i64 (-1), .int .i64 1001] 3)
        have hh := hh.alloc (.cells #[.int .i64 0, .int .i64 500, .int .i64 1000, .int .i64 333, .int .i64 (-1), .int .i64 1001] 3)
        have hgr := grown_alloc hgr (.cells #[.int .i64 0, .int .i64 500, .int .i64 1000, .int .i64 333, .int .i64 (-1), .int .i64 1001] 3)
        have hr1 := hr1.alloc (.cells #[.int .i64 0, .int .i64 500, .int .i64 1000, .int .i64 333, .int .i64 (-1), .int .i64 1001] 3)
        have hr2 : Row _ (w.heap.size + 1) 1 _ ([0, 500, 1000, 333, -1, 1001] : List Int).length (ints [0, 500, 1000, 333, -1, 1001]) := row_str hs (w.heap.size + 1) 1 6 (by omega) rfl
        (try simp only [World.size_alloc] at hr2)
        refine hK.out _ _ (hk.two_) (fun hHeld => ?_)
        clear hK K
        (try simp only [Act.put, List.setIfInBounds_toArray, List.set_cons_zero, List.set_cons_succ])
        refine wpAnyH_ready (rs := [5]) (by kernel_rfl) (by simp) ?_
        refine AllReadyH.cons rfl (fun K hK => ?_) AllReadyH.nil
        go_simp
        go_at_call 8
        refine (pick_any w.heap.size _ _ _ _ [0, 500, 1000, 333, -1, 1001] _ hs (by omega) hr2 (by omega) (by decide) (by decide)).mono ?_
        rintro e wcur ⟨pt, rfl, hpt, hs, hgS⟩
        have hk := hk.stream hgS hbx
        have hh := hh.stream hgS hgw
        have hgr := grown_trans' hgr hgS
        clear hgS
        go_wp2_with fail
        refine hK.out _ _ (hk.two_) (fun hHeld => ?_)
        clear hK K
        (try simp only [Act.put, List.setIfInBounds_toArray, List.set_cons_zero, List.set_cons_succ])
        refine wpAnyH_ready (rs := [7]) (by kernel_rfl) (by simp) ?_
        refine AllReadyH.cons rfl (fun K hK => ?_) AllReadyH.nil
        go_simp
        go_at_call 26
        refine (odd_any w.heap.size _ 1 6 _ hs (by omega) (by omega) (by omega) (by omega)).mono ?_
        rintro e wcur ⟨how, rfl, hw1, hw2, hs, hgS⟩
        have hk := hk.stream hgS hbx
        have hh := hh.stream hgS hgw
        have hgr := grown_trans' hgr hgS
        clear hgS
        go_wp2_with fail
        refine hK.out _ _ (hk.two_) (fun hHeld => ?_)
        clear hK K
        (try simp only [Act.put, List.setIfInBounds_toArray, List.set_cons_zero, List.set_cons_succ])
        refine wpAnyH_ready (rs := [10]) (by kernel_rfl) (by simp) ?_
        refine AllReadyH.cons rfl (fun K hK => ?_) AllReadyH.nil
        go_simp
        go_at_call 27
        refine (live_any w.heap.size _ segs.length atts.length c' d' 0 SA TA _ hs (by omega) (by omega)).mono ?_
        rintro e wcur ⟨A4, c4, live, rfl, ho4, hll, hs, hgS⟩
        have hk := hk.stream hgS hbx
        have hh := hh.stream hgS hgw
        have hgr := grown_trans' hgr hgS
        clear hgS
        have hrL : Row wcur 0 1 A4 live.length (ints live) := (Row.of_own ho4).weak (Nat.zero_le _)
        go_wp2_with fail
        refine hK.out _ _ (hk.two_) (fun hHeld => ?_)
        clear hK K
        (try simp only [Act.put, List.setIfInBounds_toArray, List.set_cons_zero, List.set_cons_succ])
        (refine wpAnyH_take (i := 11) (v := ?_) (by (simp only [List.getElem?_toArray, List.getElem?_cons_succ, List.getElem?_cons_zero]; rfl)) (by kernel_rfl) (by kernel_rfl) (by kernel_rfl) (by exact fun _ _ _ h => h) (Or.inl ⟨by rfl, ?_⟩) (by assumption) ?_; (rotate_left 1; (intro w hSw; (try dsimp only at hSw); go_simp); (try with_reducible rfl)); (try simp only [Act.put, List.setIfInBounds_toArray, List.set_cons_zero, List.set_cons_succ]))
        (refine wpAnyH_take (i := 12) (v := ?_) (by (simp only [List.getElem?_toArray, List.getElem?_cons_succ, List.getElem?_cons_zero]; rfl)) (by kernel_rfl) (by kernel_rfl) (by kernel_rfl) (by exact fun _ _ _ h => h) (Or.inl ⟨by rfl, ?_⟩) (by assumption) ?_; (rotate_left 1; (intro w hSw; (try dsimp only at hSw); go_simp); (try with_reducible rfl)); (try simp only [Act.put, List.setIfInBounds_toArray, List.set_cons_zero, List.set_cons_succ]))
        (refine wpAnyH_take (i := 13) (v := ?_) (by (simp only [List.getElem?_toArray, List.getElem?_cons_succ, List.getElem?_cons_zero]; rfl)) (by kernel_rfl) (by kernel_rfl) (by kernel_rfl) (by exact fun _ _ _ h => h) (Or.inl ⟨by rfl, ?_⟩) (by assumption) ?_; (rotate_left 1; (intro w hSw; (try dsimp only at hSw); go_simp); (try with_reducible rfl)); (try simp only [Act.put, List.setIfInBounds_toArray, List.set_cons_zero, List.set_cons_succ]))
        (refine wpAnyH_take (i := 14) (v := ?_) (by (simp only [List.getElem?_toArray, List.getElem?_cons_succ, List.getElem?_cons_zero]; rfl)) (by kernel_rfl) (by kernel_rfl) (by kernel_rfl) (by exact fun _ _ _ h => h) (Or.inl ⟨by rfl, ?_⟩) (by assumption) ?_; (rotate_left 1; (intro w hSw; (try dsimp only at hSw); go_simp); (try with_reducible rfl)); (try simp only [Act.put, List.setIfInBounds_toArray, List.set_cons_zero, List.set_cons_succ]))
        refine wpAnyH_done (by kernel_rfl) ?_ _
        go_wp2_with fail
        go_meet
        refine ⟨nm, pt, how, A4, c4, live, rfl, rfl, rfl, rfl, ?_, by omega, hrL, hh, hk, hb0.grown hgr (by omega) (fun k hk => by injection hk with hk; omega)⟩
        have : ∀ x ∈ ([[97, 97], [98, 98], [122, 122]] : List (List UInt8)), x.length ≤ 2 := by decide
        exact this nm hnm
      case refine_2 =>
        go_simp
        have hlt9 := hs.lt
        have hs := hs.alloc (.cells #[.int .i64 0, .int .i64 500, .int .i64 1000, .int .i64 333, .int .i64 (-1), .int .i64 1001] 3)
        have hk := hk.alloc (.cells #[.int .i64 0, .int .i64 500, .int .i64 1000, .int .i64 333, .int .i64 (-1), .int .i64 1001] 3)
        have hh := hh.alloc (.cells #[.int .i64 0, .int .i64 500, .int .i64 1000, .int .i64 333, .int .i64 (-1), .int .i64 1001] 3)
        have hgr := grown_alloc hgr (.cells #[.int .i64 0, .int .i64 500, .int .i64 1000, .int .i64 333, .int .i64 (-1), .int .i64 1001] 3)
        have hr1 := hr1.alloc (.cells #[.int .i64 0, .int .i64 500, .int .i64 1000, .int .i64 333, .int .i64 (-1), .int .i64 1001] 3)
        have hr2 : Row _ (w.heap.size + 1) 1 _ ([0, 500, 1000, 333, -1, 1001] : List Int).length (ints [0, 500, 1000, 333, -1, 1001]) := row_str hs (w.heap.size + 1) 1 6 (by omega) rfl
        (try simp only [World.size_alloc] at hr2)
        refine hK.out _ _ (hk.two_) (fun hHeld => ?_)
        clear hK K
        (try simp only [Act.put, List.setIfInBounds_toArray, List.set_cons_zero, List.set_cons_succ])
        refine wpAnyH_ready (rs := [2]) (by kernel_rfl) (by simp) ?_
        refine AllReadyH.cons rfl (fun K hK => ?_) AllReadyH.nil
        go_simp
        go_at_call 25
        refine (some_any w.heap.size _ _ _ _ [[97, 97], [98, 98], [122, 122]] _ hs (by omega) hr1 (by omega) (by decide) (by decide)).mono ?_
        rintro e wcur ⟨nm, rfl, hnm, hs, hgS⟩
        have hk := hk.stream hgS hbx
        have hh := hh.stream hgS hgw
        have hgr := grown_trans' hgr hgS
        have hr2 := hr2.grown hgS (by omega)
        clear hgS
        go_wp2_with fail
        refine hK.out _ _ (hk.two_) (fun hHeld => ?_)
        clear hK K
        (try simp only [Act.put, List.setIfInBounds_toArray, List.set_cons_zero, List.set_cons_succ])
        refine wpAnyH_ready (rs := [5]) (by kernel_rfl) (by simp) ?_
        refine AllReadyH.cons rfl (fun K hK => ?_) AllReadyH.nil
        go_simp
        go_at_call 8
        refine (pick_any w.heap.size _ _ _ _ [0, 500, 1000, 333, -1, 1001] _ hs (by omega) hr2 (by omega) (by decide) (by decide)).mono ?_
        rintro e wcur ⟨pt, rfl, hpt, hs, hgS⟩
        have hk := hk.stream hgS hbx
        have hh := hh.stream hgS hgw
        have hgr := grown_trans' hgr hgS
        clear hgS
        go_wp2_with fail
        refine hK.out _ _ (hk.two_) (fun hHeld => ?_)
        clear hK K
        (try simp only [Act.put, List.setIfInBounds_toArray, List.set_cons_zero, List.set_cons_succ])
        refine wpAnyH_ready (rs := [7]) (by kernel_rfl) (by simp) ?_
        refine AllReadyH.cons rfl (fun K hK => ?_) AllReadyH.nil
        go_simp
        go_at_call 26
        refine (odd_any w.heap.size _ 1 6 _ hs (by omega) (by omega) (by omega) (by omega)).mono ?_
        rintro e wcur ⟨how, rfl, hw1, hw2, hs, hgS⟩
        have hk := hk.stream hgS hbx
        have hh := hh.stream hgS hgw
        have hgr := grown_trans' hgr hgS
        clear hgS
        go_wp2_with fail
        refine hK.out _ _ (hk.two_) (fun hHeld => ?_)
        clear hK K
        (try simp only [Act.put, List.setIfInBounds_toArray, List.set_cons_zero, List.set_cons_succ])
        refine wpAnyH_ready (rs := [10]) (by kernel_rfl) (by simp) ?_
        refine AllReadyH.cons rfl (fun K hK => ?_) AllReadyH.nil
        go_simp
        go_at_call 27
        refine (live_any w.heap.size _ segs.length atts.length c' d' 0 SA TA _ hs (by omega) (by omega)).mono ?_
        rintro e wcur ⟨A4, c4, live, rfl, ho4, hll, hs, hgS⟩
        have hk := hk.stream hgS hbx
        have hh := hh.stream hgS hgw
        have hgr := grown_trans' hgr hgS
        clear hgS
        have hrL : Row wcur 0 1 A4 live.length (ints live) := (Row.of_own ho4).weak (Nat.zero_le _)
        go_wp2_with fail
        refine hK.out _ _ (hk.two_) (fun hHeld => ?_)
        clear hK K
        (try simp only [Act.put, List.setIfInBounds_toArray, List.set_cons_zero, List.set_cons_succ])
        (refine wpAnyH_take (i := 11) (v := ?_) (by (simp only [List.getElem?_toArray, List.getElem?_cons_succ, List.getElem?_cons_zero]; rfl)) (by kernel_rfl) (by kernel_rfl) (by kernel_rfl) (by exact fun _ _ _ h => h) (Or.inl ⟨by rfl, ?_⟩) (by assumption) ?_; (rotate_left 1; (intro w hSw; (try dsimp only at hSw); go_simp); (try with_reducible rfl)); (try simp only [Act.put, List.setIfInBounds_toArray, List.set_cons_zero, List.set_cons_succ]))
        (refine wpAnyH_take (i := 12) (v := ?_) (by (simp only [List.getElem?_toArray, List.getElem?_cons_succ, List.getElem?_cons_zero]; rfl)) (by kernel_rfl) (by kernel_rfl) (by kernel_rfl) (by exact fun _ _ _ h => h) (Or.inl ⟨by rfl, ?_⟩) (by assumption) ?_; (rotate_left 1; (intro w hSw; (try dsimp only at hSw); go_simp); (try with_reducible rfl)); (try simp only [Act.put, List.setIfInBounds_toArray, List.set_cons_zero, List.set_cons_succ]))
        (refine wpAnyH_take (i := 13) (v := ?_) (by (simp only [List.getElem?_toArray, List.getElem?_cons_succ, List.getElem?_cons_zero]; rfl)) (by kernel_rfl) (by kernel_rfl) (by kernel_rfl) (by exact fun _ _ _ h => h) (Or.inl ⟨by rfl, ?_⟩) (by assumption) ?_; (rotate_left 1; (intro w hSw; (try dsimp only at hSw); go_simp); (try with_reducible rfl)); (try simp only [Act.put, List.setIfInBounds_toArray, List.set_cons_zero, List.set_cons_succ]))
        (refine wpAnyH_take (i := 14) (v := ?_) (by (simp only [List.getElem?_toArray, List.getElem?_cons_succ, List.getElem?_cons_zero]; rfl)) (by kernel_rfl) (by kernel_rfl) (by kernel_rfl) (by exact fun _ _ _ h => h) (Or.inl ⟨by rfl, ?_⟩) (by assumption) ?_; (rotate_left 1; (intro w hSw; (try dsimp only at hSw); go_simp); (try with_reducible rfl)); (try simp only [Act.put, List.setIfInBounds_toArray, List.set_cons_zero, List.set_cons_succ]))
        refine wpAnyH_done (by kernel_rfl) ?_ _
        go_wp2_with fail
        go_meet
        refine ⟨nm, pt, how, A4, c4, live, rfl, rfl, rfl, rfl, ?_, by omega, hrL, hh, hk, hb0.grown hgr (by omega) (fun k hk => by injection hk with hk; omega)⟩
        have : ∀ x ∈ ([[97, 97], [98, 98], [122, 122]] : List (List UInt8)), x.length ≤ 2 := by decide
        exact this nm hnm
    case refine_2 =>
      go_simp
      have hlt9 := hs.lt
      have hs := hs.alloc (.cells #[.int .i64 0, .int .i64 500, .int .i64 1000, .int .i64 333, .int .i64 (-1), .int .i64 1001] 3)
      have hk := hk.alloc (.cells #[.int .i64 0, .int .i64 500, .int .i64 1000, .int .i64 333, .int .i64 (-1), .int .i64 1001] 3)
      have hh := hh.alloc (.cells #[.int .i64 0, .int .i64 500, .int .i64 1000, .int .i64 333, .int .i64 (-1), .int .i64 1001] 3)
      have hgr := grown_alloc hgr (.cells #[.int .i64 0, .int .i64 500, .int .i64 1000, .int .i64 333, .int .i64 (-1), .int .i64 1001] 3)
      have hr2 : Row _ (w.heap.size + 1) 1 _ ([0, 500, 1000, 333, -1, 1001] : List Int).length (ints [0, 500, 1000, 333, -1, 1001]) := row_str hs (w.heap.size + 1) 1 6 (by omega) rfl
      (try simp only [World.size_alloc] at hr2)
      refine hK.out _ _ (hk.two_) (fun hHeld => ?_)
      clear hK K
      (try simp only [Act.put, List.setIfInBounds_toArray, List.set_cons_zero, List.set_cons_succ])
      refine wpAnyH_ready (rs := [1]) (by kernel_rfl) (by simp) ?_
      refine AllReadyH.cons rfl (fun K hK => ?_) AllReadyH.nil
      go_simp
      have hlt9 := hs.lt
      have hs := hs.alloc (.cells #[.string ⟨#[97, 97]⟩, .string ⟨#[98, 98]⟩, .string ⟨#[122, 122]⟩] 9)
      have hk := hk.alloc (.cells #[.string ⟨#[97, 97]⟩, .string ⟨#[98, 98]⟩, .string ⟨#[122, 122]⟩] 9)
      have hh := hh.alloc (.cells #[.string ⟨#[97, 97]⟩, .string ⟨#[98, 98]⟩, .string ⟨#[122, 122]⟩] 9)
      have hgr := grown_alloc hgr (.cells #[.string ⟨#[97, 97]⟩, .string ⟨#[98, 98]⟩, .string ⟨#[122, 122]⟩] 9)
      have hr2 := hr2.alloc (.cells #[.string ⟨#[97, 97]⟩, .string ⟨#[98, 98]⟩, .string ⟨#[122, 122]⟩] 9)
      have hr1 : Row _ (w.heap.size + 1) 1 _ ([[97, 97], [98, 98], [122, 122]] : List (List UInt8)).length (strs [[97, 97], [98, 98], [122, 122]]) := row_str hs (w.heap.size + 1) 1 3 (by omega) rfl
      (try simp only [World.size_alloc] at hr1)
      refine hK.out _ _ (hk.two_) (fun hHeld => ?_)
      clear hK K
      (try simp only [Act.put, List.setIfInBounds_toArray, List.set_cons_zero, List.set_cons_succ])
      refine wpAnyH_ready (rs := [2]) (by kernel_rfl) (by simp) ?_
      refine AllReadyH.cons rfl (fun K hK => ?_) AllReadyH.nil
      go_simp
      go_at_call 25
      refine (some_any w.heap.size _ _ _ _ [[97, 97], [98, 98], [122, 122]] _ hs (by omega) hr1 (by omega) (by decide) (by decide)).mono ?_
      rintro e wcur ⟨nm, rfl, hnm, hs, hgS⟩
      have hk := hk.stream hgS hbx
      have hh := hh.stream hgS hgw
      have hgr := grown_trans' hgr hgS
      have hr2 := hr2.grown hgS (by omega)
      clear hgS
      go_wp2_with fail
      refine hK.out _ _ (hk.two_) (fun hHeld => ?_)
      clear hK K
      (try simp only [Act.put, List.setIfInBounds_toArray, List.set_cons_zero, List.set_cons_succ])
      refine wpAnyH_ready (rs := [5]) (by kernel_rfl) (by simp) ?_
      refine AllReadyH.cons rfl (fun K hK => ?_) AllReadyH.nil
      go_simp
      go_at_call 8
      refine (pick_any w.heap.size _ _ _ _ [0, 500, 1000, 333, -1, 1001] _ hs (by omega) hr2 (by omega) (by decide) (by decide)).mono ?_
      rintro e wcur ⟨pt, rfl, hpt, hs, hgS⟩
      have hk := hk.stream hgS hbx
      have hh := hh.stream hgS hgw
      have hgr := grown_trans' hgr hgS
      clear hgS
      go_wp2_with fail
      refine hK.out _ _ (hk.two_) (fun hHeld => ?_)
      clear hK K
      (try simp only [Act.put, List.setIfInBounds_toArray, List.set_cons_zero, List.set_cons_succ])
      refine wpAnyH_ready (rs := [7]) (by kernel_rfl) (by simp) ?_
      refine AllReadyH.cons rfl (fun K hK => ?_) AllReadyH.nil
      go_simp
      go_at_call 26
      refine (odd_any w.heap.size _ 1 6 _ hs (by omega) (by omega) (by omega) (by omega)).mono ?_
      rintro e wcur ⟨how, rfl, hw1, hw2, hs, hgS⟩
      have hk := hk.stream hgS hbx
      have hh := hh.stream hgS hgw
      have hgr := grown_trans' hgr hgS
      clear hgS
      go_wp2_with fail
      refine hK.out _ _ (hk.two_) (fun hHeld => ?_)
      clear hK K
      (try simp only [Act.put, List.setIfInBounds_toArray, List.set_cons_zero, List.set_cons_succ])
      refine wpAnyH_ready (rs := [10]) (by kernel_rfl) (by simp) ?_
      refine AllReadyH.cons rfl (fun K hK => ?_) AllReadyH.nil
      go_simp
      go_at_call 27
      refine (live_any w.heap.size _ segs.length atts.length c' d' 0 SA TA _ hs (by omega) (by omega)).mono ?_
      rintro e wcur ⟨A4, c4, live, rfl, ho4, hll, hs, hgS⟩
      have hk := hk.stream hgS hbx
      have hh := hh.stream hgS hgw
      have hgr := grown_trans' hgr hgS
      clear hgS
      have hrL : Row wcur 0 1 A4 live.length (ints live) := (Row.of_own ho4).weak (Nat.zero_le _)
      go_wp2_with fail
      refine hK.out _ _ (hk.two_) (fun hHeld => ?_)
      clear hK K
      (try simp only [Act.put, List.setIfInBounds_toArray, List.set_cons_zero, List.set_cons_succ])
      (refine wpAnyH_take (i := 11) (v := ?_) (by (simp only [List.getElem?_toArray, List.getElem?_cons_succ, List.getElem?_cons_zero]; rfl)) (by kernel_rfl) (by kernel_rfl) (by kernel_rfl) (by exact fun _ _ _ h => h) (Or.inl ⟨by rfl, ?_⟩) (by assumption) ?_; (rotate_left 1; (intro w hSw; (try dsimp only at hSw); go_simp); (try with_reducible rfl)); (try simp only [Act.put, List.setIfInBounds_toArray, List.set_cons_zero, List.set_cons_succ]))
      (refine wpAnyH_take (i := 12) (v := ?_) (by (simp only [List.getElem?_toArray, List.getElem?_cons_succ, List.getElem?_cons_zero]; rfl)) (by kernel_rfl) (by kernel_rfl) (by kernel_rfl) (by exact fun _ _ _ h => h) (Or.inl ⟨by rfl, ?_⟩) (by assumption) ?_; (rotate_left 1; (intro w hSw; (try dsimp only at hSw); go_simp); (try with_reducible rfl)); (try simp only [Act.put, List.setIfInBounds_toArray, List.set_cons_zero, List.set_cons_succ]))
      (refine wpAnyH_take (i := 13) (v := ?_) (by (simp only [List.getElem?_toArray, List.getElem?_cons_succ, List.getElem?_cons_zero]; rfl)) (by kernel_rfl) (by kernel_rfl) (by kernel_rfl) (by exact fun _ _ _ h => h) (Or.inl ⟨by rfl, ?_⟩) (by assumption) ?_; (rotate_left 1; (intro w hSw; (try dsimp only at hSw); go_simp); (try with_reducible rfl)); (try simp only [Act.put, List.setIfInBounds_toArray, List.set_cons_zero, List.set_cons_succ]))
      (refine wpAnyH_take (i := 14) (v := ?_) (by (simp only [List.getElem?_toArray, List.getElem?_cons_succ, List.getElem?_cons_zero]; rfl)) (by kernel_rfl) (by kernel_rfl) (by kernel_rfl) (by exact fun _ _ _ h => h) (Or.inl ⟨by rfl, ?_⟩) (by assumption) ?_; (rotate_left 1; (intro w hSw; (try dsimp only at hSw); go_simp); (try with_reducible rfl)); (try simp only [Act.put, List.setIfInBounds_toArray, List.set_cons_zero, List.set_cons_succ]))
      refine wpAnyH_done (by kernel_rfl) ?_ _
      go_wp2_with fail
      go_meet
      refine ⟨nm, pt, how, A4, c4, live, rfl, rfl, rfl, rfl, ?_, by omega, hrL, hh, hk, hb0.grown hgr (by omega) (fun k hk => by injection hk with hk; omega)⟩
      have : ∀ x ∈ ([[97, 97], [98, 98], [122, 122]] : List (List UInt8)), x.length ≤ 2 := by decide
      exact this nm hnm
  case rest =>
    clear hs hh hk hgr hb0 hstr hs0
    obtain ⟨nm, pt, how, A4, c4, live, rfl, rfl, rfl, rfl, hnm, hll, hrL, hh, hk, hx⟩ := hcut
    unfold encStr
    obtain ⟨q0, q1⟩ := hk.two_
    have hz := hk.lt
    go_wp2_with fail
    refine (historyFault_any SA TA c' d' _ segs atts _ hh hz9.hc hz9.h9 hz9.h8 hz9.h7 hz9.h6).mono ?_
    rintro e w1 ⟨rfl, hb⟩
    clear q0 q1 hz
    have hh := hh.below hb
    have hk := hk.below hb
    have hx := below_up hx hb
    have hrL := hrL.below hb
    obtain ⟨q0, q1⟩ := hk.two_
    have hz := hk.lt
    clear hb
    go_wp2_with fail
    by_cases hf : histF segs atts = 0
    · have HO := Lib.hid (histF_ok hf)
      have HF := Lib.hid hf
      rw [hf]
      clear hf
      refine (Level_ok SA TA c' d' _ nm pt segs atts _ hh hc HO.out).mono ?_
      rintro e w1 ⟨r, hr, rfl, hb⟩
      have HIR := Lib.hid hr
      clear hr
      clear q0 q1 hz
      have hh := hh.below hb
      have hk := hk.below hb
      have hx := below_up hx hb
      have hrL := hrL.below hb
      obtain ⟨q0, q1⟩ := hk.two_
      have hz := hk.lt
      clear hb
      go_wp2_with fail
      refine (Splits_un SA TA c' d' _ how segs atts _ hh hz9 HO.out).mono ?_
      rintro e w1 ⟨A1, c1, rfl, hX, hb⟩
      clear q0 q1 hz
      have hh := hh.below hb
      have hk := hk.below hb
      have hx := below_up hx hb
      have hrL := hrL.below hb
      obtain ⟨q0, q1⟩ := hk.two_
      have hz := hk.lt
      clear hb
      go_wp2_with fail
      refine (Compare_un SA TA A4 c' d' c4 _ _ how live segs atts _ hh hz9 hrL (by omega) HO.out).mono ?_
      rintro e w1 ⟨A2, c2, rfl, hD, hb⟩
      clear q0 q1 hz
      have hh := hh.below hb
      have hk := hk.below hb
      have hx := below_up hx hb
      have hrL := hrL.below hb
      obtain ⟨q0, q1⟩ := hk.two_
      have hz := hk.lt
      have hX := hX.below hb
      clear hb
      go_wp2_with fail
      refine (Possible_un SA TA A4 c' d' c4 _ _ live segs atts _ hh hz9 hrL (by omega) HO.out).mono ?_
      rintro e w1 ⟨rfl, hb⟩
      clear q0 q1 hz
      have hh := hh.below hb
      have hk := hk.below hb
      have hx := below_up hx hb
      have hrL := hrL.below hb
      obtain ⟨q0, q1⟩ := hk.two_
      have hz := hk.lt
      have hX := hX.below hb
      have hD := hD.below hb
      clear hb
      go_wp2_with fail
      have HIX := Lib.hid (indexS_any SA c' _ segs nm w1 hh.1 (by omega))
      unfold encStr at HIX
      refine HIX.out.mono ?_
      rintro e w9 ⟨r2, rfl, rfl, hr2⟩
      have er : r2 = r := IdxS.same hr2 HIR.out
      subst er
      clear HIX hr2
      go_wp2_with fail
      refine (when_any _ _ _).mono ?_
      rintro e w9 ⟨rfl, rfl⟩
      go_wp2_with fail
      refine (span_any _ _ _ _).mono ?_
      rintro e w9 ⟨rfl, rfl⟩
      go_wp2_with fail
      refine (or_any _ _ 0 [bif decide (r2 < 0) then 5 else 0, spanFault pt 0 1000] _ (by first | exact row_new' _ (by first | rfl | simp) (by first | omega | (simp; omega)) rfl | exact row_newN _ _ (by first | rfl | simp) (by first | omega | (simp; omega)) rfl | exact row_newD _ (by first | rfl | simp) (by first | omega | (simp; omega)) rfl) (by simp)).mono ?_
      rintro e w9 ⟨rfl, rfl⟩
      have HLE : Hid (firstE [bif decide (r2 < 0) then 5 else 0, spanFault pt 0 1000] = levE r2 pt) := Lib.hid (by
        rw [firstE_two]; unfold levE
        by_cases h : r2 < 0
        · simp [h]
        · simp [h])
      rw [HLE.out]
      clear HLE
      obtain ⟨W1, hW1⟩ : ∃ W1, W1 = w1.alloc (.cells #[.int .i64 (bif decide (r2 < 0) then 5 else 0), .int .i64 (spanFault pt 0 1000)] 32) := ⟨_, rfl⟩
      rw [← hW1]
      have hb : Below w1.heap.size w1 W1 := by rw [hW1]; exact (Below.refl _ _).alloc (Nat.le_refl _) _
      clear hW1
      clear q0 q1 hz
      have hh := hh.below hb
      have hk := hk.below hb
      have hx := below_up hx hb
      have hrL := hrL.below hb
      obtain ⟨q0, q1⟩ := hk.two_
      have hz := hk.lt
      have hX := hX.below hb
      have hD := hD.below hb
      clear hb
      generalize hlv : levE r2 pt = lv at *
      have HLV := Lib.hid hlv
      clear hlv
      go_upto_if 149 with (fail)
      go_cut [24, 25] from 150 to 158 (fun v f wx => v = .int .i64 (levN atts r2 pt) ∧ f = .bool (levB atts r2 pt) ∧ Below W1.heap.size W1 wx)
      case first =>
        by_cases he : lv = 0
        · subst he
          have he := HLV.out
          have HLN := Lib.hid (fun h => lev_none (atts := atts) (r := r2) (part := pt) h)
          have HLI := Lib.hid (fun h => lev_is (atts := atts) (r := r2) (part := pt) he h)
          have h2 : 0 ≤ r2 ∧ 0 ≤ pt ∧ pt ≤ 1000 := by
            unfold levE spanFault at he
            split at he
            · omega
            · split at he
              · omega
              · omega
          obtain ⟨k, rfl⟩ : ∃ k : Nat, r2 = k := ⟨r2.toNat, by omega⟩
          obtain ⟨p9, rfl⟩ : ∃ p9 : Nat, pt = p9 := ⟨pt.toNat, by omega⟩
          have hp9 : p9 ≤ 1000 := by omega
          simp only [Int.toNat_natCast] at HLN HLI
          clear he h2 HLV
          go_wp2_with fail
          refine (rowOf_any SA TA c' d' _ k segs atts _ hh HO.out).mono ?_
          rintro e w2 ⟨B, kc, rfl, ho, hb2⟩
          have HK := Lib.hid (row_ok HO.out k)
          have hr1 := Row.of_own ho
          clear ho
          generalize sorted (rowA atts k) = row at *
          by_cases h0 : row.length = 0
          · obtain ⟨y1, y2⟩ := HLN.out h0
            have Y1 := Lib.hid y1
            have Y2 := Lib.hid y2
            have d1 : decide (0 < row.length) = false := decide_eq_false (by omega)
            clear y1 y2 h0 HLN HLI
            go_wp2_with fail
            go_meet
            exact ⟨by rw [Y1.out], by rw [Y2.out], hb2⟩
          · obtain ⟨y1, y2⟩ := HLI.out (by omega)
            have Y1 := Lib.hid y1
            have Y2 := Lib.hid y2
            have h0' : 0 < row.length := by omega
            have d1 : decide (0 < row.length) = true := decide_eq_true h0'
            clear y1 y2 h0 HLN HLI
            go_wp2_with fail
            refine (levelOf_any B kc _ p9 row _ hr1 HK.out h0' hp9).mono ?_
            rintro e w3 ⟨rfl, hb3⟩
            go_wp2_with fail
            go_meet
            exact ⟨by rw [Y1.out], by rw [Y2.out], below_up hb2 hb3⟩
        · obtain ⟨y1, y2⟩ := lev_err (atts := atts) (r := r2) (part := pt) (by rw [HLV.out]; exact he)
          have d1 : (lv == 0) = false := by simpa using he
          have Y1 := Lib.hid y1
          have Y2 := Lib.hid y2
          clear he y1 y2
          go_wp2_with fail
          go_meet
          exact ⟨by rw [Y1.out], by rw [Y2.out], Below.refl _ _⟩
      case rest =>
        obtain ⟨rfl, rfl, hb⟩ := hcut
        clear q0 q1 hz
        have hh := hh.below hb
        have hk := hk.below hb
        have hx := below_up hx hb
        have hrL := hrL.below hb
        obtain ⟨q0, q1⟩ := hk.two_
        have hz := hk.lt
        have hX := hX.below hb
        have hD := hD.below hb
        clear hb
        clear HIR
        generalize levN atts r2 pt = vN at *
        generalize levB atts r2 pt = vB at *
        go_wp2_with fail
        refine (rHowFault_any _ _).mono ?_
        rintro e w9 ⟨rfl, rfl⟩
        obtain ⟨W2, hW2⟩ : ∃ W2, W2 = wc := ⟨_, rfl⟩
        subst hW2
        generalize hev : howE how = ev at *
        have HEV := Lib.hid hev
        clear hev
        go_upto_if 175 with (fail)
        go_cut [28, 29] from 176 to 181 (fun v b wx => ∃ (A : Option Addr) (c9 : Nat), v = .slice A (optL (sO segs.length atts how)).length c9 ∧ b = .bool (sO segs.length atts how).isSome ∧ Row wx 0 1 A (optL (sO segs.length atts how)).length (ints (optL (sO segs.length atts how))) ∧ Below W2.heap.size W2 wx)
        case first =>
          by_cases he : ev = 0
          · subst he
            have e2 : sO segs.length atts how = cmpO segs.length atts how := by unfold sO; rw [if_pos HEV.out]
            have E2 := Lib.hid e2
            clear e2
            go_wp2_with fail
            refine (splitsFor_ok SA TA c' d' _ how segs atts _ hh HO.out).mono ?_
            rintro e w3 ⟨A9, c9, rfl, hr9, hb9⟩
            go_wp2_with fail
            go_meet
            exact ⟨A9, c9, by rw [E2.out], by rw [E2.out], by rw [E2.out]; exact hr9, hb9⟩
          · have e2 : sO segs.length atts how = none := by unfold sO; rw [if_neg (by rw [HEV.out]; exact he)]
            have d1 : (ev == 0) = false := by simpa using he
            have E2 := Lib.hid e2
            clear e2 he
            go_wp2_with fail
            go_meet
            exact ⟨none, 0, by rw [E2.out]; rfl, by rw [E2.out]; rfl, by rw [E2.out]; exact Row.none_ _ _ _ _, Below.refl _ _⟩
        case rest =>
          obtain ⟨A9, c9, rfl, rfl, hX2, hb⟩ := hcut
          clear q0 q1 hz
          have hh := hh.below hb
          have hk := hk.below hb
          have hx := below_up hx hb
          have hrL := hrL.below hb
          obtain ⟨q0, q1⟩ := hk.two_
          have hz := hk.lt
          have hX := hX.below hb
          have hD := hD.below hb
          clear hb
          have HXL : Hid ((optL (sO segs.length atts how)).length ≤ 1000) := Lib.hid (by
            unfold sO
            split
            · cases hco : cmpO segs.length atts how with
              | none => simp [optL]
              | some o =>
                have := (cmp_ok HO.out how) o hco
                show o.length ≤ 1000
                have n2 := HO.out.n2
                omega
            · simp [optL])
          have hxl := HXL.out
          go_wp2_with fail
          refine (equalI_any _ _ _ _ _ _ (optL (sO segs.length atts how)) (optL (sO segs.length atts how)) _ hX hX2 (by omega) (by omega)).mono ?_
          rintro e w9 ⟨rfl, q, rfl⟩
          rw [decide_eq_true rfl]
          have hb := below_drewN' (Below.refl wc.heap.size wc) q
          clear hX hX2 HXL hxl
          clear q0 q1 hz
          have hh := hh.below hb
          have hk := hk.below hb
          have hx := below_up hx hb
          have hrL := hrL.below hb
          obtain ⟨q0, q1⟩ := hk.two_
          have hz := hk.lt
          have hD := hD.below hb
          clear hb
          generalize wc.drewN q = W3 at *
          go_wp2_with fail
          refine (rsplitsFault_any segs.length A4 _ _ live _ hrL (by omega) (by omega)).mono ?_
          rintro e w9 ⟨rfl, rfl⟩
          go_wp2_with fail
          refine (or_any _ _ 0 [ev, splF segs.length live] _ (by first | exact row_new' _ (by first | rfl | simp) (by first | omega | (simp; omega)) rfl | exact row_newN _ _ (by first | rfl | simp) (by first | omega | (simp; omega)) rfl | exact row_newD _ (by first | rfl | simp) (by first | omega | (simp; omega)) rfl) (by simp)).mono ?_
          rintro e w9 ⟨rfl, rfl⟩
          have HTW : Hid (firstE [ev, splF segs.length live] = twoE segs how live) := Lib.hid (by rw [← HEV.out]; rfl)
          rw [HTW.out]
          have hb : Below W3.heap.size W3 (W3.alloc (.cells #[.int .i64 ev, .int .i64 (splF segs.length live)] 32)) := (Below.refl _ _).alloc (Nat.le_refl _) _
          clear q0 q1 hz
          have hh := hh.below hb
          have hk := hk.below hb
          have hx := below_up hx hb
          have hrL := hrL.below hb
          obtain ⟨q0, q1⟩ := hk.two_
          have hz := hk.lt
          have hD := hD.below hb
          clear hb
          generalize W3.alloc (.cells #[.int .i64 ev, .int .i64 (splF segs.length live)] 32) = W4 at *
          generalize htv : twoE segs how live = tv at *
          have HTV := Lib.hid htv
          clear htv
          go_upto_if 206 with (fail)
          go_cut [29, 32] from 207 to 213 (fun b v wx => ∃ (A : Option Addr) (c9 : Nat), v = .slice A (dL segs atts how live).length c9 ∧ b = .bool (dB segs atts how live) ∧ Row wx 0 4 A (dL segs atts how live).length (dls (dL segs atts how live)) ∧ Below W4.heap.size W4 wx)
          case first =>
            by_cases he : tv = 0
            · subst he
              have e2 : dL segs atts how live = cdL segs atts how live := by unfold dL; rw [if_pos HTV.out]
              have e3 : dB segs atts how live = (cmpO segs.length atts how).isSome := by unfold dB; rw [decide_eq_true HTV.out]; rfl
              have HLS := Lib.hid (splF_ok (twoE_ok HTV.out).2)
              have E2 := Lib.hid e2
              have E3 := Lib.hid e3
              clear e2 e3
              go_wp2_with fail
              refine (deltasOf_ok SA TA A4 c' d' c4 _ _ how live segs atts _ hh hrL HO.out HLS.out).mono ?_
              rintro e w3 ⟨A8, c8, rfl, ho8, hb9⟩
              go_wp2_with fail
              go_meet
              exact ⟨A8, c8, by rw [E2.out], by rw [E3.out], by rw [E2.out]; exact (Row.of_own ho8).weak (Nat.zero_le _), hb9⟩
            · have hne : twoE segs how live ≠ 0 := by rw [HTV.out]; exact he
              have e2 : dL segs atts how live = [] := by unfold dL; rw [if_neg hne]
              have e3 : dB segs atts how live = false := by unfold dB; rw [decide_eq_false hne]; rfl
              have d1 : (tv == 0) = false := by simpa using he
              clear hne
              have E2 := Lib.hid e2
              have E3 := Lib.hid e3
              clear e2 e3 he
              go_wp2_with fail
              go_meet
              exact ⟨none, 0, by rw [E2.out]; rfl, by rw [E3.out], by rw [E2.out]; exact Row.none_ _ _ _ _, Below.refl _ _⟩
          case rest =>
            obtain ⟨A8, c8, rfl, rfl, hD2, hb⟩ := hcut
            clear q0 q1 hz
            have hh := hh.below hb
            have hk := hk.below hb
            have hx := below_up hx hb
            have hrL := hrL.below hb
            obtain ⟨q0, q1⟩ := hk.two_
            have hz := hk.lt
            have hD := hD.below hb
            clear hb
            have HDL : Hid ((dL segs atts how live).length ≤ 1000) := Lib.hid (by
              unfold dL
              split
              · cases hco : cmpO segs.length atts how with
                | none => rw [cdL_none hco]; simp
                | some o => rw [cdL_some hco, dltL_len]; omega
              · simp)
            have hdl := HDL.out
            have HEQ := Lib.hid (fun (Wn : World) (h1 : Row Wn 0 4 A2 (dL segs atts how live).length (dls (dL segs atts how live))) (h2 : Row Wn 0 4 A8 (dL segs atts how live).length (dls (dL segs atts how live))) => equalD_any A2 A8 c2 c8 _ _ (dL segs atts how live) (dL segs atts how live) Wn h1 h2 (by omega) rfl)
            have HSF : Hid (splF segs.length live = splF segs.length live) := Lib.hid rfl
            have HPN : Hid (splF segs.length live ≠ 0 → pN segs atts live = 0 ∧ pB segs atts live = false) := Lib.hid (fun h => by unfold pN pB; rw [if_neg h, decide_eq_false h]; exact ⟨rfl, rfl⟩)
            have HPL : Hid (splF segs.length live = 0 → pB segs atts live = decide (0 ≤ pVR segs atts live) ∧ pN segs atts live = max (pVR segs atts live) 0) := Lib.hid (fun h => by
              have := pVR_law (atts := atts) (splF_ok h)
              unfold pN pB
              rw [if_pos h, decide_eq_true h, Bool.true_and]
              exact this)
            go_wp2_with fail
            refine (HEQ.out _ hD hD2).mono ?_
            rintro e w9 ⟨rfl, q, rfl⟩
            have hb := below_drewN' (Below.refl wc.heap.size wc) q
            clear hD hD2 HEQ hdl HDL
            clear q0 q1 hz
            have hh := hh.below hb
            have hk := hk.below hb
            have hx := below_up hx hb
            have hrL := hrL.below hb
            obtain ⟨q0, q1⟩ := hk.two_
            have hz := hk.lt
            clear hb
            generalize wc.drewN q = W5 at *
            by_cases hs : splF segs.length live = 0
            · obtain ⟨y1, y2⟩ := HPL.out hs
              have HLS := Lib.hid (splF_ok hs)
              rw [hs, y1, y2]
              clear y1 y2 hs HPL HPN HSF
              go_wp2_with fail
              refine (possibleOf_ok SA TA A4 c' d' c4 _ _ live segs atts _ hh HO.out hrL HLS.out).mono ?_
              rintro e w3 ⟨rfl, hb9⟩
              have hx := below_up hx hb9
              generalize pVR segs atts live = pv at *
              go_wp2_with fail
              refine (summed_any _).mono ?_
              rintro e w9 ⟨rfl, hb9⟩
              go_wp2_with fail
              go_ret
              exact ⟨by first | rfl | simp, below_up hx hb9⟩
            · obtain ⟨y1, y2⟩ := HPN.out hs
              have d1 : (splF segs.length live != 0) = true := by simpa using hs
              rw [y1, y2]
              clear y1 y2 hs HPL HPN HSF
              generalize splF segs.length live = ev at *
              go_wp2_with fail
              refine (summed_any _).mono ?_
              rintro e w9 ⟨rfl, hb9⟩
              go_wp2_with fail
              go_ret
              exact ⟨by first | rfl | simp, below_up hx hb9⟩
    · have HE : Hid (hfE segs atts how = histF segs atts) := Lib.hid (hfE_bad hf)
      have HC : Hid (cpE segs atts how live = histF segs atts) := Lib.hid (by unfold cpE; rw [firstE_two, HE.out, if_neg hf])
      have HP : Hid (poE segs atts live = histF segs atts) := Lib.hid (by unfold poE; rw [firstE_two, if_neg hf])
      have d5 : (histF segs atts != 0) = true := by simpa using hf
      refine (Level_bad SA TA c' d' _ nm pt segs atts _ hh hz9 hf).mono ?_
      rintro e w1 ⟨rfl, hb⟩
      clear q0 q1 hz
      have hh := hh.below hb
      have hk := hk.below hb
      have hx := below_up hx hb
      have hrL := hrL.below hb
      obtain ⟨q0, q1⟩ := hk.two_
      have hz := hk.lt
      clear hb
      go_wp2_with fail
      refine (Splits_bad SA TA c' d' _ how segs atts _ hh hz9 (by rw [HE.out]; exact hf)).mono ?_
      rintro e w1 ⟨rfl, hb⟩
      rw [HE.out]
      clear q0 q1 hz
      have hh := hh.below hb
      have hk := hk.below hb
      have hx := below_up hx hb
      have hrL := hrL.below hb
      obtain ⟨q0, q1⟩ := hk.two_
      have hz := hk.lt
      clear hb
      go_wp2_with fail
      refine (Compare_err SA TA A4 c' d' c4 _ _ how live segs atts _ hh hz9 hrL (by omega) (by rw [HC.out]; exact hf)).mono ?_
      rintro e w1 ⟨rfl, hb⟩
      rw [HC.out]
      clear q0 q1 hz
      have hh := hh.below hb
      have hk := hk.below hb
      have hx := below_up hx hb
      have hrL := hrL.below hb
      obtain ⟨q0, q1⟩ := hk.two_
      have hz := hk.lt
      clear hb
      go_wp2_with fail
      refine (Possible_err SA TA A4 c' d' c4 _ _ live segs atts _ hh hz9 hrL (by omega) (by rw [HP.out]; exact hf)).mono ?_
      rintro e w1 ⟨rfl, hb⟩
      rw [HP.out]
      clear q0 q1 hz
      have hh := hh.below hb
      have hk := hk.below hb
      have hx := below_up hx hb
      have hrL := hrL.below hb
      obtain ⟨q0, q1⟩ := hk.two_
      have hz := hk.lt
      clear hb
      clear hf
      generalize histF segs atts = ef at *
      go_wp2_with fail
      refine (summed_any _).mono ?_
      rintro e w2 ⟨rfl, hb⟩
      go_wp2_with fail
      go_ret
      exact ⟨rfl, below_up hx hb⟩
end Go.Proofs.YtagghmfhfboejaaGreatDoor
