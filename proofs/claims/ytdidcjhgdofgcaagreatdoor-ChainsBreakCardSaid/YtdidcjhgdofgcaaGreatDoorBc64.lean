/- Texts of this seat, laid together: LawChainsBreak. -/
import Derived.Handy
import Derived.Test.YtdidcjhgdofgcaaGreatDoorBc46
import Derived.Test.YtdidcjhgdofgcaaGreatDoorBc35
import Derived.Test.YtdidcjhgdofgcaaGreatDoorBc60
/- For every list of numbers the law ChainsBreak returns true and leaves the list as it was: its walk. -/
namespace Go.Proofs.YtdidcjhgdofgcaaGreatDoor
set_option linter.unusedVariables false
set_option linter.unusedSimpArgs false
open Go.RowKit Go.Sort

theorem startF_brk {ps : List (Int × Int)} (h : inFault ps = 0) : startF ps [48, 49, 50, 51, 52, 53, 54, 55, 56, 57, 97, 98, 99, 100, 101, 102] = 0 := startF_ok h (by kernel_rfl)
set_option maxHeartbeats 2000000 in
set_option maxRecDepth 100000 in
theorem chainsbreak_walk (A : Option Addr) (n c : Nat) (w : World) (hn : n ≤ 9223372036854775807)
    (hz : ∀ k, k < n → ∃ b off z, A = some ⟨b, off, none⟩ ∧ b < w.heap.size ∧ w.cell? ⟨b, off + k, none⟩ = some (.int .i64 z) ∧ I64 z) (_hE : Env w) (hT : Tz w) :
    LawCall 5 A n c w := by
  have hstr := str_make (c := c) hn hz
  clear hz
  have hx : Below w.heap.size w (w.alloc (.cells #[.slice A n c, .int .i64 0] 25)) := (Below.refl _ _).alloc (Nat.le_refl _) _
  have hz0 : (w.alloc (.cells #[.slice A n c, .int .i64 0] 25)).heap.size = w.heap.size + 1 := by simp
  have HT := Lib.hid hT
  clear hT _hE
  go_enter Tryz.func5, Tryz.ntmps5
  go_wp2_with fail
  generalize w.alloc (.cells #[.slice A n c, .int .i64 0] 25) = w0 at *
  have hgl : w.heap.size < w0.heap.size := by omega
  clear hz0
  refine (rightPieces_any w.heap.size 0 _ hstr (by omega)).mono ?_
  rintro e w1 ⟨X, c', ps, rfl, hown, hl, hall, hs1, hg1⟩
  replace hx := hx.grown hg1 (by omega) (fun k hk => by injection hk with hk; omega)
  have hr := (Row.of_own hown).weak (show w.heap.size + 1 ≤ w0.heap.size by omega)
  have h00 := rp_right hl hall
  have H0 := Lib.hid h00
  have hul : (unf ps).length ≤ 160 := (pieces_ok ps hall hl).2.1
  have HALL := Lib.hid hall
  have HFR := Lib.hid (framesR_ok h00)
  clear hstr hg1 hown hall h00
  obtain ⟨st, hst⟩ : ∃ st : List UInt8, st = [48, 49, 50, 51, 52, 53, 54, 55, 56, 57, 97, 98, 99, 100, 101, 102] := ⟨_, rfl⟩
  have hsl : st.length ≤ 16 := by rw [hst]; decide
  have HS0 := Lib.hid (fun (qs : List (Int × Int)) (h : inFault qs = 0) => (by rw [hst]; exact startF_brk h : startF qs st = 0))
  have HENC : Hid (Value.string ⟨#[48, 49, 50, 51, 52, 53, 54, 55, 56, 57, 97, 98, 99, 100, 101, 102]⟩ = encStr st) := Lib.hid (by rw [hst])
  clear hst
  have hlt1 := hs1.lt
  have HBK := Lib.hid (fun j (h : j < (unf ps).length) => brk (ps := ps) st HALL.out hl h)
  go_wp2_with fail
  rw [HENC.out]
  refine (chainF_any X c' _ ps st _ hr (by omega) (by omega) (HT.out.below hx)).mono ?_
  rintro e w2 ⟨Y, cy, rfl, hry, hb⟩
  rw [HS0.out ps H0.out]
  rw [chL_ok (HS0.out ps H0.out)] at hry ⊢
  replace hr := hr.below hb
  replace hs1 := hs1.keep hb
  replace hx := below_up hx hb
  clear hb
  have hL4 : (chainA (unf ps) st).length ≤ 4000 := by rw [← chL_ok (HS0.out ps H0.out)]; exact chL_in
  have hLn : ((chainA (unf ps) st).length : Int) = ((((unf ps).length + 59) / 60 : Nat) : Int) := by rw [chainA_len]; rfl
  obtain ⟨u, hu⟩ : ∃ u : Nat, u = (unf ps).length := ⟨_, rfl⟩
  have HU := Lib.hid hu
  rw [← hu] at hul hLn HFR HBK
  clear hu
  have HLN := Lib.hid hLn
  clear hLn
  obtain ⟨L, hL⟩ : ∃ L, chainA (unf ps) st = L := ⟨_, rfl⟩
  have HL := Lib.hid hL
  rw [hL] at hry hL4 HLN ⊢
  clear hL
  go_wp2_with fail
  refine (verify_any X Y c' cy _ _ ps st L _ hr (by omega) (by omega) hry (by omega) (HT.out.below hx)).mono ?_
  rintro e w3 hv
  obtain ⟨v, b, rfl, HV, hb⟩ := hv.parts
  clear hv
  obtain ⟨hv1, hv2⟩ := HV.out.2 (HS0.out ps H0.out)
  rw [HL.out, verN_self] at hv1
  subst hv1
  have hb1 : b = true := hv2
  clear hv2 HV
  subst hb1
  rw [HS0.out ps H0.out]
  replace hr := hr.below hb
  replace hry := hry.below hb
  replace hs1 := hs1.keep hb
  replace hx := below_up hx hb
  clear hb
  go_wp2_with fail
  refine (framesF_any X c' _ ps _ hr (by omega)).mono ?_
  rintro e w4 ⟨rfl, hb⟩
  rw [HFR.out, H0.out]
  replace hr := hr.below hb
  replace hry := hry.below hb
  replace hs1 := hs1.keep hb
  replace hx := below_up hx hb
  clear hb
  have w1' : IntKind.i64.wrap ((u : Int) + 60) = (u : Int) + 60 := IntWalk.i64_in _ ⟨by omega, by omega⟩
  have w2' : IntKind.i64.wrap ((u : Int) + 60 - 1) = (u : Int) + 60 - 1 := IntWalk.i64_in _ ⟨by omega, by omega⟩
  have w3' : IntKind.i64.wrap ((((u + 59) / 60 : Nat)) : Int) = (((u + 59) / 60 : Nat) : Int) := IntWalk.i64_in _ ⟨by omega, by omega⟩
  have q1 : ((u : Int) + 60 - 1).tdiv 60 = (((u + 59) / 60 : Nat) : Int) := by
    rw [Int.tdiv_eq_ediv_of_nonneg (by omega)]; omega
  have q2 : ((u : Int) + 60 - 1) / 60 = (((u + 59) / 60 : Nat) : Int) := by omega
  obtain ⟨nb, hnb⟩ : ∃ nb : Nat, nb = (u + 59) / 60 := ⟨_, rfl⟩
  rw [← hnb] at HLN q1 q2 w3'
  have HNB := Lib.hid hnb
  clear hnb
  have hLL : L.length = nb := by have := HLN.out; omega
  have HLL := Lib.hid hLL
  clear hLL
  have q3 : ((L.length : Int) != (nb : Int)) = false := by rw [HLL.out]; simp
  by_cases hu0 : u = 0
  · have d0 : ((u : Int) == 0) = true := by rw [hu0]; rfl
    clear hu0
    go_wp2_with fail
    refine (ready_any _).mono ?_
    rintro e w11 ⟨rfl, hb⟩
    go_wp2_with fail
    go_ret
    exact ⟨rfl, below_up hx hb⟩
  · have d0 : ((u : Int) == 0) = false := by simpa using hu0
    go_wp2_with fail
    refine (next_any w.heap.size _ (u : Int) _ hs1 (by omega) (by omega)).mono ?_
    rintro e w5 ⟨r, rfl, r0, r4, -, hs2, hg2⟩
    obtain ⟨j, rfl⟩ := Int.eq_ofNat_of_zero_le r0
    have hj : j < u := by have := r4 (by omega); omega
    replace hr := hr.grown hg2 (by omega)
    replace hry := hry.grown hg2 hlt1
    replace hx := hx.grown hg2 hx.size (fun k hk => by injection hk with hk; omega)
    clear hs1 hg2 hs2 r0 r4 w1' w2' w3' q1 q2 q3 d0 hu0
    obtain ⟨v, HB⟩ := HBK.out j hj
    replace HB := Lib.hid HB
    clear HBK
    go_wp2_with fail
    refine (heldAtF_any X c' _ ps (j : Int) _ hr (by omega)).mono ?_
    rintro e w6 ⟨rfl, hb⟩
    rw [HB.out.e0]
    have hxr := HB.out.x
    have hb0 := HB.out.b0
    have hb1 := HB.out.b1
    have hv0 := HB.out.v0
    have hv1 := HB.out.v1
    generalize heldR ps (j : Int) = hd at hxr hb0 hb1 ⊢
    replace hr := hr.below hb
    replace hry := hry.below hb
    replace hx := below_up hx hb
    clear hb
    go_wp2_with fail
    refine (cut_any X c' _ ps 0 (j : Int) _ hr (by omega)).mono ?_
    rintro e w7 ⟨P, cp, rfl, hrp, hb⟩
    rw [HB.out.c1]
    have hpl := HB.out.l1
    replace hr := hr.below hb
    replace hry := hry.below hb
    replace hx := below_up hx hb
    clear hb
    have wj : IntKind.i64.wrap ((j : Int) + 1) = (j : Int) + 1 := IntWalk.i64_in _ ⟨by omega, by omega⟩
    go_wp2_with fail
    refine (cut_any X c' _ ps ((j : Int) + 1) (u : Int) _ hr (by omega)).mono ?_
    rintro e w8 ⟨Q, cq, rfl, hrq, hb⟩
    rw [HU.out] at hrq ⊢
    rw [HB.out.c2]
    have hql := HB.out.l2
    replace hrp := hrp.below hb
    replace hry := hry.below hb
    replace hx := below_up hx hb
    clear hb hr
    have HS1 := Lib.hid HB.out.s1
    have hl3 := HB.out.l3
    have HS2 := Lib.hid HB.out.s2
    have hl4 := HB.out.l4
    have HF4 := Lib.hid HB.out.f4
    have HR := Lib.hid HB.out.r
    generalize cutR ps 0 (j : Int) = pa at *
    generalize cutR ps ((j : Int) + 1) ((unf ps).length : Int) = pb at *
    go_wp2_with fail
    have hN1 : Row (w8.alloc (.cells #[.int .i64 v, .int .i64 1] 51)) 0 2 (some ⟨w8.heap.size, 0, none⟩) [(v, (1 : Int))].length (prs [(v, 1)]) := row_new w8 #[.int .i64 v, .int .i64 1] 51 0 2 1 (Nat.zero_le _) rfl
    replace hrp := hrp.alloc (.cells #[.int .i64 v, .int .i64 1] 51)
    replace hrq := hrq.alloc (.cells #[.int .i64 v, .int .i64 1] 51)
    replace hry := hry.alloc (.cells #[.int .i64 v, .int .i64 1] 51)
    replace hx := Below.alloc hx hx.size (.cells #[.int .i64 v, .int .i64 1] 51)
    generalize w8.alloc (.cells #[.int .i64 v, .int .i64 1] 51) = w9 at *
    refine (splice_any P _ cp 1 _ _ pa [(v, 1)] (j : Int) _ hrp hN1 (by omega) (by simp)).mono ?_
    rintro e w10 ⟨S, cs, rfl, hrs, hb⟩
    rw [HS1.out]
    replace hrq := hrq.below hb
    replace hry := hry.below hb
    replace hx := below_up hx hb
    clear hb hrp hN1
    generalize spR pa [(v, 1)] (j : Int) = sa at *
    go_wp2_with fail
    refine (splice_any S Q cs cq _ _ sa pb ((j : Int) + 1) _ hrs hrq (by omega) (by omega)).mono ?_
    rintro e w11 ⟨Z, cz, rfl, hrz, hb⟩
    rw [HS2.out]
    replace hry := hry.below hb
    replace hx := below_up hx hb
    clear hb hrs hrq
    generalize spR sa pb ((j : Int) + 1) = sz at *
    go_wp2_with fail
    try rw [HENC.out]
    refine (verify_any Z Y cz cy _ _ sz st L _ hrz (by omega) (by omega) hry (by omega) (HT.out.below hx)).mono ?_
    rintro e w12 hv
    obtain ⟨vv, b, rfl, HV, hb⟩ := hv.parts
    clear hv
    obtain ⟨hv3, hv4⟩ := HV.out.2 (HS0.out sz HF4.out)
    rw [← HL.out, HR.out] at hv3
    subst hv3
    have hb2 : b = false := hv4.trans (decide_eq_false (by omega))
    clear hv4 HV
    subst hb2
    rw [HS0.out sz HF4.out]
    replace hx := below_up hx hb
    clear hb
    have q4 : (j : Int).tdiv 60 = ((j / 60 : Nat) : Int) := by rw [Int.tdiv_eq_ediv_of_nonneg (by omega)]; omega
    have q5 : (j : Int) / 60 = ((j / 60 : Nat) : Int) := by omega
    have w4' : IntKind.i64.wrap ((j / 60 : Nat) : Int) = ((j / 60 : Nat) : Int) := IntWalk.i64_in _ ⟨by omega, by omega⟩
    generalize j / 60 = jq at *
    have q6 : ((jq : Int) == (jq : Int)) = true := by simp
    go_wp2_with fail
    refine (ready_any _).mono ?_
    rintro e w13 ⟨rfl, hb⟩
    go_wp2_with fail
    go_ret
    exact ⟨rfl, below_up hx hb⟩
end Go.Proofs.YtdidcjhgdofgcaaGreatDoor
