/- Texts of this seat, laid together: LawTopChainsProve. -/
import Derived.Handy
import Derived.Test.YtdidcjhgdofgcaaGreatDoorBc46
import Derived.Test.YtdidcjhgdofgcaaGreatDoorBc35
import Derived.Test.YtdidcjhgdofgcaaGreatDoorBc60
/- For every list of numbers the law TopChainsProve returns true and leaves the list as it was: its walk. -/
namespace Go.Proofs.YtdidcjhgdofgcaaGreatDoor
set_option linter.unusedVariables false
set_option linter.unusedSimpArgs false
open Go.RowKit Go.Sort

theorem startF_top {ps : List (Int × Int)} (h : inFault ps = 0) : startF ps [99, 98, 102, 50, 57, 99, 101, 52, 56, 52, 50, 50, 50, 51, 50, 53] = 0 := startF_ok h (by kernel_rfl)
set_option maxHeartbeats 1500000 in
set_option maxRecDepth 100000 in
theorem topchains_walk (A : Option Addr) (n c : Nat) (w : World) (hn : n ≤ 9223372036854775807)
    (hz : ∀ k, k < n → ∃ b off z, A = some ⟨b, off, none⟩ ∧ b < w.heap.size ∧ w.cell? ⟨b, off + k, none⟩ = some (.int .i64 z) ∧ I64 z) (_hE : Env w) (hT : Tz w) :
    LawCall 4 A n c w := by
  have hstr := str_make (c := c) hn hz
  clear hz
  have hx : Below w.heap.size w (w.alloc (.cells #[.slice A n c, .int .i64 0] 25)) := (Below.refl _ _).alloc (Nat.le_refl _) _
  have hz0 : (w.alloc (.cells #[.slice A n c, .int .i64 0] 25)).heap.size = w.heap.size + 1 := by simp
  have HT := Lib.hid hT
  clear hT _hE
  go_enter Tryz.func4, Tryz.ntmps4
  go_wp2_with fail
  generalize w.alloc (.cells #[.slice A n c, .int .i64 0] 25) = w0 at *
  have hgl : w.heap.size < w0.heap.size := by omega
  clear hz0
  refine (rightPieces_any w.heap.size 0 _ hstr (by omega)).mono ?_
  rintro e w1 ⟨X, c', ps, rfl, hown, hl, hall, hs1, hg1⟩
  replace hx := hx.grown hg1 (by omega) (fun k hk => by injection hk with hk; omega)
  have hr := (Row.of_own hown).weak (show w.heap.size + 1 ≤ w0.heap.size by omega)
  have H0 := Lib.hid (rp_right hl hall)
  have HALL := Lib.hid hall
  clear hstr hg1 hown hall
  obtain ⟨st, hst⟩ : ∃ st : List UInt8, st = [99, 98, 102, 50, 57, 99, 101, 52, 56, 52, 50, 50, 50, 51, 50, 53] := ⟨_, rfl⟩
  have hsl : st.length ≤ 16 := by rw [hst]; decide
  have HS0 := Lib.hid (fun (qs : List (Int × Int)) (h : inFault qs = 0) => (by rw [hst]; exact startF_top h : startF qs st = 0))
  have HENC : Hid (Value.string ⟨#[99, 98, 102, 50, 57, 99, 101, 52, 56, 52, 50, 50, 50, 51, 50, 53]⟩ = encStr st) := Lib.hid (by rw [hst])
  clear hst
  have hlt1 := hs1.lt
  go_wp2_with fail
  rw [HENC.out]
  refine (chainF_any X c' _ ps st _ hr (by omega) (by omega) (HT.out.below hx)).mono ?_
  rintro e w2 ⟨Y, cy, rfl, hry, hb⟩
  rw [HS0.out ps H0.out]
  rw [chL_ok (HS0.out ps H0.out)] at hry ⊢
  replace hr := hr.below hb
  replace hs1 := hs1.keep hb
  replace hx := below_up hx hb
  clear hb
  have hL4 : (chainA (unf ps) st).length ≤ 4000 := by rw [← chL_ok (HS0.out ps H0.out)]; exact chL_in
  have HSM := Lib.hid (fun s (h : s ∈ chainA (unf ps) st) => chainA_sums h)
  have HTC := Lib.hid (fun k (h : k ≤ (chainA (unf ps) st).length) => topC HALL.out hl h)
  obtain ⟨L, hL⟩ : ∃ L, chainA (unf ps) st = L := ⟨_, rfl⟩
  have HL := Lib.hid hL
  rw [hL] at hry hL4 HSM HTC ⊢
  clear hL
  have wL : IntKind.i64.wrap ((L.length : Int) + 1) = (L.length : Int) + 1 := IntWalk.i64_in _ ⟨by omega, by omega⟩
  go_wp2_with fail
  refine (next_any w.heap.size _ ((L.length : Int) + 1) _ hs1 (by omega) (by omega)).mono ?_
  rintro e w3 ⟨r, rfl, r0, r4, -, hs2, hg2⟩
  obtain ⟨k, rfl⟩ := Int.eq_ofNat_of_zero_le r0
  have hk : k ≤ L.length := by have := r4 (by omega); omega
  have hTK := HTC.out k hk
  replace hr := hr.grown hg2 (by omega)
  replace hry := hry.grown hg2 hlt1
  replace hx := hx.grown hg2 hx.size (fun k hk => by injection hk with hk; omega)
  clear hs1 hg2 hs2 r0 r4 wL
  have w60 : IntKind.i64.wrap ((k : Int) * 60) = (k : Int) * 60 := IntWalk.i64_in _ ⟨by omega, by omega⟩
  have HTK := Lib.hid hTK
  clear hTK
  go_wp2_with fail
  refine (cut_any X c' _ ps 0 ((k : Int) * 60) _ hr (by omega)).mono ?_
  rintro e w4 ⟨Z, cz, rfl, hrz, hb⟩
  rw [HTK.out.e]
  have hzl := HTK.out.l
  have HF2 := Lib.hid HTK.out.f0
  have HC2 := Lib.hid (HTK.out.c.trans (by rw [HL.out]))
  replace hry := hry.below hb
  replace hx := below_up hx hb
  clear hb hr w60 HTK
  generalize cutR ps 0 ((k : Int) * 60) = qs at *
  go_wp2_with fail
  try rw [HENC.out]
  refine (chainF_any Z cz _ qs st _ hrz (by omega) (by omega) (HT.out.below hx)).mono ?_
  rintro e w5 ⟨Y2, cy2, rfl, hry2, hb⟩
  rw [HS0.out qs HF2.out]
  rw [chL_ok (HS0.out qs HF2.out), HC2.out] at hry2 ⊢
  replace hry := hry.below hb
  replace hx := below_up hx hb
  clear hb hrz
  have HM0 := top_miss hk (fun s h => (HSM.out s h).1) hL4
  have hl20 : (L.take k).length ≤ 4000 := by rw [List.length_take]; omega
  obtain ⟨L2, hL2⟩ : ∃ L2, L.take k = L2 := ⟨_, rfl⟩
  have HSM2 : ∀ s ∈ L2, s.length ≤ 9223372036854775807 := fun s h => by rw [← hL2] at h; have := (HSM.out s (List.mem_of_mem_take h)).2; omega
  have HL162 := Lib.hid HSM2
  rw [hL2] at HM0 hl20 hry2 ⊢
  have HM := Lib.hid HM0
  clear HM0 HSM2 hL2
  have hl16 : ∀ s ∈ L, s.length ≤ 9223372036854775807 := fun s h => by have := (HSM.out s h).2; omega
  have HL16 := Lib.hid hl16
  clear hl16
  go_wp2_with fail
  refine (missing_any Y Y2 cy cy2 _ _ L L2 _ hry hry2 (by omega) (by omega) HL16.out HL162.out).mono ?_
  rintro e w6 ⟨M, cm, rfl, hrm, hb⟩
  obtain ⟨m1, m2, m3⟩ := HM.out
  rw [m1, m2]
  rw [m3] at hrm ⊢
  replace hx := below_up hx hb
  clear hb hry hry2 m1 m2 m3 HM
  by_cases hkl : k < L.length
  · rw [if_pos hkl] at hrm ⊢
    have d1 : decide (L.length ≤ k) = false := decide_eq_false (by omega)
    have i1 : ¬ (L.length : Int) ≤ (k : Int) := by omega
    obtain ⟨b, off, rfl, _, hbs, hc⟩ := hrm.2 (show 0 < 1 from Nat.one_pos)
    have q0 : w6.cell? ⟨b, off, none⟩ = some (.int .i64 k) := hc 0 _ rfl
    have q1 : w6.cell? ⟨b, off + 1, none⟩ = some (.int .i64 (L.length : Int)) := hc 1 _ rfl
    have hwr : IntKind.i64.wrap ((L.length : Int) - (k : Int)) = (L.length : Int) - (k : Int) := IntWalk.i64_in _ ⟨by omega, by omega⟩
    have eqq : ((L.length : Int) - (k : Int) == (L.length : Int) - (k : Int)) = true := by simp
    simp only [List.length_cons, List.length_nil, Nat.zero_add] at hrm ⊢
    clear hrm hc
    go_wp2_with fail
    go_loopw [15, 82] (fun g i wr => (g = .int .i64 0 ∧ i = .int .i64 0 ∧ wr = w6) ∨ (g = .int .i64 ((L.length : Int) - (k : Int)) ∧ i = .int .i64 1 ∧ Below w6.heap.size w6 wr)) (fun _ i _ => 1 - (intOf i).toNat)
    case atStart => exact .inl ⟨rfl, rfl, rfl⟩
    case round =>
      rcases hrel with ⟨rfl, rfl, rfl⟩ | ⟨rfl, rfl, hbw⟩
      · go_wp2_with fail
        go_roundw
        case rel => exact .inr ⟨by first | rfl | simp, by go_num, (Below.refl _ _).alloc (Nat.le_refl _) _⟩
        case measure => simp [intOf]
      · go_wp2_with fail
        refine (h06facts_any _).mono ?_
        rintro e w11 ⟨rfl, hb⟩
        go_wp2_with fail
        go_ret
        exact ⟨rfl, below_up (below_up hx hbw) hb⟩
  · rw [if_neg hkl] at hrm ⊢
    have d1 : decide (L.length ≤ k) = true := decide_eq_true (by omega)
    have i1 : (L.length : Int) ≤ (k : Int) := by omega
    go_wp2_with fail
    refine (h06facts_any _).mono ?_
    rintro e w11 ⟨rfl, hb⟩
    go_wp2_with fail
    go_ret
    exact ⟨rfl, below_up hx hb⟩
end Go.Proofs.YtdidcjhgdofgcaaGreatDoor
