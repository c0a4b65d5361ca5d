/- Texts of this seat, laid together: Le. -/
import Derived.Test.YtagghmfhfboejaaGreatDoorBu50
import Derived.Test.YtagghmfhfboejaaGreatDoorBu19
/- The walk of segment.Level. -/
namespace Go.Proofs.YtagghmfhfboejaaGreatDoor
set_option linter.unusedVariables false
set_option linter.unusedSimpArgs false
open Go.RowKit Go.Sort

theorem IdxS.same {ss : List (List UInt8)} {x : List UInt8} {r s : Int} (h : IdxS ss x r) (h' : IdxS ss x s) : r = s := by
  rcases h with ⟨rfl, h1⟩ | ⟨k, hk, rfl, h2, h3⟩
  · rcases h' with ⟨rfl, _⟩ | ⟨k', hk', rfl, h2', _⟩
    · rfl
    · exact absurd (h2' ▸ List.getElem_mem hk') h1
  · rcases h' with ⟨rfl, h1⟩ | ⟨k', hk', rfl, h2', h3'⟩
    · exact absurd (h2 ▸ List.getElem_mem hk) h1
    · rcases Nat.lt_trichotomy k k' with h | h | h
      · exact absurd h2 (h3' k hk h)
      · rw [h]
      · exact absurd h2' (h3 k' hk' h)
def levE (r part : Int) : Int := if r < 0 then 5 else spanFault part 0 1000
def levN (atts : List Att) (r part : Int) : Int := if levE r part = 0 ∧ 0 < (sorted (rowA atts r.toNat)).length then levA (sorted (rowA atts r.toNat)) part.toNat else 0
def levB (atts : List Att) (r part : Int) : Bool := decide (levE r part = 0 ∧ 0 < (sorted (rowA atts r.toNat)).length)
theorem lev_err {atts : List Att} {r part : Int} (h : levE r part ≠ 0) : levN atts r part = 0 ∧ levB atts r part = false := by simp [levN, levB, h]
theorem lev_none {atts : List Att} {r part : Int} (h : (sorted (rowA atts r.toNat)).length = 0) : levN atts r part = 0 ∧ levB atts r part = false := by simp [levN, levB, h]
theorem lev_is {atts : List Att} {r part : Int} (h : levE r part = 0) (h0 : 0 < (sorted (rowA atts r.toNat)).length) : levN atts r part = levA (sorted (rowA atts r.toNat)) part.toNat ∧ levB atts r part = true := by
  refine ⟨by unfold levN; rw [if_pos ⟨h, h0⟩], by unfold levB; rw [decide_eq_true ⟨h, h0⟩]⟩
set_option maxHeartbeats 2000000 in
theorem Level_ok (SA TA : Option Addr) (c d lo : Nat) (name : List UInt8) (part : Int) (segs : List (List UInt8)) (atts : List Att) (w : World) (hh : Hist w lo SA TA segs atts) (hc : segs.length ≤ c) (hok : HistOk segs atts) :
    Calls Tryz.prog 28 #[.agg #[.slice SA segs.length c, .slice TA atts.length d], encStr name, .int .i64 part] w fun e w' => ∃ r : Int, IdxS segs name r ∧ e = .returned (.tuple #[.int .i64 (levN atts r part), .bool (levB atts r part), .int .i64 (levE r part)]) ∧ Below w.heap.size w w' := by
  have HO := Lib.hid hok
  have n2 := hok.n2
  have HROK := Lib.hid (fun k => row_ok hok k)
  clear hok
  unfold encStr
  go_enter Tryz.func28, Tryz.ntmps28
  go_wp2_with fail
  have hb0 : Below w.heap.size w (w.alloc (.cells #[.slice SA segs.length c, .slice TA atts.length d] 29)) := (Below.refl _ _).alloc (Nat.le_refl _) _
  have hk0 : Blk (w.alloc (.cells #[.slice SA segs.length c, .slice TA atts.length d] 29)) w.heap.size 29 #[.slice SA segs.length c, .slice TA atts.length d] := Blk.new _ _ _
  have hh0 := hh.alloc (.cells #[.slice SA segs.length c, .slice TA atts.length d] 29)
  generalize w.alloc (.cells #[.slice SA segs.length c, .slice TA atts.length d] 29) = w0 at *
  refine (checkHistory_ok _ _ _ _ _ segs atts _ hh0 hc HO.out).mono ?_
  rintro e w1 ⟨rfl, hb1⟩
  have hh1 := hh0.below hb1
  have hk1 := hk0.below hb1
  have hx1 := below_up hb0 hb1
  clear hb1 hb0 hh0 hk0 hh
  obtain ⟨q0, q1⟩ := hk1.two_
  have zk := hk1.lt
  have HIX := Lib.hid (indexS_any SA c _ segs name w1 hh1.1 (by omega))
  unfold encStr at HIX
  go_wp2_with fail
  refine HIX.out.mono ?_
  rintro e w9 ⟨r, rfl, rfl, hr⟩
  have HR := Lib.hid hr
  by_cases hneg : r < 0
  · have HE : Hid (levE r part = 5) := Lib.hid (by unfold levE; rw [if_pos hneg])
    have HN := Lib.hid (lev_err (atts := atts) (r := r) (part := part) (by rw [HE.out]; decide))
    have d1 : decide (r < 0) = true := decide_eq_true hneg
    clear hneg hr HIX
    go_wp2_with fail
    go_returns
    exact ⟨r, HR.out, by rw [HN.out.1, HN.out.2, HE.out]; rfl, hx1⟩
  · have d1 : decide (r < 0) = false := decide_eq_false hneg
    by_cases hp : 0 ≤ part ∧ part ≤ 1000
    · have HE : Hid (levE r part = 0) := Lib.hid (by unfold levE spanFault; rw [if_neg hneg, if_pos hp])
      obtain ⟨k, hks, rfl⟩ : ∃ k : Nat, ∃ _ : k < segs.length, r = k := by
        rcases hr with ⟨rfl, _⟩ | ⟨k, hk, rfl, _, _⟩
        · omega
        · exact ⟨k, hk, rfl⟩
      obtain ⟨pt, rfl⟩ : ∃ pt : Nat, part = pt := ⟨part.toNat, by omega⟩
      have hpt : pt ≤ 1000 := by omega
      have dp : (decide ((pt : Int) < 0) || decide ((1000 : Int) < (pt : Int))) = false := by simp; omega
      have HLN := Lib.hid (fun h => lev_none (atts := atts) (r := (k : Int)) (part := (pt : Int)) h)
      have HLI := Lib.hid (fun h => lev_is (atts := atts) (r := (k : Int)) (part := (pt : Int)) HE.out h)
      simp only [Int.toNat_natCast] at HLN HLI
      clear hneg hp hr HIX
      go_wp2_with fail
      refine (out_any _ _ _ _).mono ?_
      rintro e w9 ⟨rfl, rfl⟩
      rw [dp]
      go_wp2_with fail
      refine (rowsQ_any _ _ _ _ _ _ segs atts _ hk1 hh1 HO.out).mono ?_
      rintro e w2 ⟨g, c', rfl, hg, hN, hb2⟩
      have hx2 := below_up hx1 hb2
      have hkr : k < (rowsQ atts segs.length).length := by rw [rowsQ_len]; exact hks
      have HAT := Lib.hid (rowsQ_at atts segs.length k hkr)
      obtain ⟨A1, c1, cg, ho1⟩ := hN.row hkr
      rw [HAT.out] at cg ho1
      have hgl := hN.lt
      have HK := Lib.hid (HROK.out k)
      have hr1 := Row.of_own ho1
      clear hN hb2 ho1 q0 q1 zk HAT
      generalize (rowsQ atts segs.length).length = nr at *
      generalize sorted (rowA atts k) = row at *
      by_cases h0 : row.length = 0
      · obtain ⟨y1, y2⟩ := HLN.out h0
        have Y1 := Lib.hid y1
        have Y2 := Lib.hid y2
        have d2 : ((row.length : Int) == 0) = true := by rw [beq_iff_eq]; omega
        clear y1 y2 h0 HLI HLN
        go_wp2_with fail
        go_returns
        exact ⟨k, HR.out, by rw [Y1.out, Y2.out, HE.out]; rfl, hx2⟩
      · obtain ⟨y1, y2⟩ := HLI.out (by omega)
        have Y1 := Lib.hid y1
        have Y2 := Lib.hid y2
        have d2 : ((row.length : Int) == 0) = false := by rw [beq_eq_false_iff_ne]; omega
        have h0' : 0 < row.length := by omega
        clear y1 y2 h0 HLI HLN
        go_wp2_with fail
        refine (level_any A1 c1 _ pt row _ hr1 HK.out h0' hpt).mono ?_
        rintro e w3 ⟨rfl, hb3⟩
        have hx3 := below_up hx2 hb3
        go_wp2_with fail
        go_returns
        exact ⟨k, HR.out, by rw [Y1.out, Y2.out, HE.out]; rfl, hx3⟩
    · have HE : Hid (levE r part = 1) := Lib.hid (by unfold levE spanFault; rw [if_neg hneg, if_neg hp])
      have HN := Lib.hid (lev_err (atts := atts) (r := r) (part := part) (by rw [HE.out]; decide))
      have dp : (decide (part < 0) || decide ((1000 : Int) < part)) = true := by simp; omega
      clear hneg hp hr HIX
      go_wp2_with fail
      refine (out_any _ _ _ _).mono ?_
      rintro e w9 ⟨rfl, rfl⟩
      rw [dp]
      go_wp2_with fail
      go_returns
      exact ⟨r, HR.out, by rw [HN.out.1, HN.out.2, HE.out]; rfl, hx1⟩
set_option maxHeartbeats 1000000 in
theorem Level_bad (SA TA : Option Addr) (c d lo : Nat) (name : List UInt8) (part : Int) (segs : List (List UInt8)) (atts : List Att) (w : World) (hh : Hist w lo SA TA segs atts) (hz : HistSz segs atts c) (hf : histF segs atts ≠ 0) :
    Calls Tryz.prog 28 #[.agg #[.slice SA segs.length c, .slice TA atts.length d], encStr name, .int .i64 part] w fun e w' => e = .returned (.tuple #[.int .i64 0, .bool false, .int .i64 (histF segs atts)]) ∧ Below w.heap.size w w' := by
  have d5 : (histF segs atts != 0) = true := by simpa using hf
  clear hf
  unfold encStr
  go_enter Tryz.func28, Tryz.ntmps28
  go_wp2_with fail
  have hb0 : Below w.heap.size w (w.alloc (.cells #[.slice SA segs.length c, .slice TA atts.length d] 29)) := (Below.refl _ _).alloc (Nat.le_refl _) _
  have hh0 := hh.alloc (.cells #[.slice SA segs.length c, .slice TA atts.length d] 29)
  generalize w.alloc (.cells #[.slice SA segs.length c, .slice TA atts.length d] 29) = w0 at *
  refine (checkHistory_any _ _ _ _ _ segs atts _ hh0 hz.hc hz.h9 hz.h8 hz.h7 hz.h6).mono ?_
  rintro e w1 ⟨rfl, hb1⟩
  have hx1 := below_up hb0 hb1
  go_wp2_with fail
  go_returns
  exact ⟨rfl, hx1⟩
end Go.Proofs.YtagghmfhfboejaaGreatDoor
