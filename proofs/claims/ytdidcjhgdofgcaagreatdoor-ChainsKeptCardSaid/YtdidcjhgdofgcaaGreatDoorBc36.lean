/- Texts of this seat, laid together: Is. -/
import Derived.Handy
import Derived.Test.YtdidcjhgdofgcaaGreatDoorBc34
import Derived.Test.YtdidcjhgdofgcaaGreatDoorBc35
import Derived.Test.YtdidcjhgdofgcaaGreatDoorBc28
import Derived.Test.YtdidcjhgdofgcaaGreatDoorBc13
/- The walk of the stream's function that draws a text of an input. -/
namespace Go.Proofs.YtdidcjhgdofgcaaGreatDoor
set_option linter.unusedVariables false
set_option linter.unusedSimpArgs false
open Go.RowKit Go.Sort

theorem tidyT_len {ps : List (Int × Int)} (h : inFault ps = 0) : (inT (tidyR ps) (tidyR ps).length).length ≤ 135000 := by
  obtain ⟨q1, -, -⟩ := tidy_right h
  have h1 := inT_len (right_piece q1) (tidyR ps).length (Nat.le_refl _)
  have h2 := (inFault_ok q1).1
  omega
set_option maxHeartbeats 2000000 in
set_option maxRecDepth 100000 in
theorem inputString_any (g N B : Nat) (w : World) (hs : Str w g N) (hN : N < 4611686018424000000) (hE : EnvB B w) (hB : B ≤ g) :
    Calls Tryz.prog 20 #[.pointer (some ⟨g, 0, none⟩)] w (StringPost w g (N + 100)) := by
  have hlt := hs.lt
  have hE := Lib.hid hE
  go_enter Tryz.func20, Tryz.ntmps20
  go_wp2_with fail
  refine (rightPieces_any g N _ hs (by omega)).mono ?_
  rintro e w1 ⟨A, c, ps, rfl, hown, hl, hall, hs1, hg1⟩
  have hE := Lib.hid (hE.out.below ((Below.refl B w).grown hg1 (by omega) (fun k hk => by injection hk with hk; omega)))
  have hrt := rp_right hl hall
  have hln := tidyT_len hrt
  have HR := Lib.hid hrt
  clear hs hall hrt
  go_wp2_with fail
  refine (inputLines_any A c _ ps _ (Row.of_own hown) HR.out hE.out.env).mono ?_
  rintro e w2 ⟨rfl, hb⟩
  have hs2 := hs1.keep hb
  have hgr := grown_trans' hg1 (grown_of_below hb (some g))
  clear hown hs1 hg1 hb hE HR
  generalize inT (tidyR ps) (tidyR ps).length = T at *
  go_wp2_with fail
  refine (pick_any g _ _ _ _ [0, 0, 1, 2] _ (hs2.alloc _) (by omega) (row_new _ _ _ _ _ _ (Nat.le_refl _) rfl) hs2.lt (by simp) (by simp)).mono ?_
  rintro e w3 ⟨n, rfl, hn, hs3, hg3⟩
  have hgr := grown_trans' (grown_alloc hgr (.cells #[.int .i64 0, .int .i64 0, .int .i64 1, .int .i64 2] 3)) hg3
  obtain ⟨n, rfl⟩ : ∃ m : Nat, n = (m : Int) := by
    simp only [List.mem_cons, List.not_mem_nil, or_false] at hn
    rcases hn with rfl | rfl | rfl | rfl
    · exact ⟨0, rfl⟩
    · exact ⟨0, rfl⟩
    · exact ⟨1, rfl⟩
    · exact ⟨2, rfl⟩
  have hn2 : n ≤ 2 := by
    simp only [List.mem_cons, List.not_mem_nil, or_false] at hn
    omega
  clear hs2 hg3 hn
  go_wp2_with fail
  go_loopw [3, 10] (fun s i wr => ∃ (k : Nat) (r : List UInt8), k ≤ n ∧ s = encStr r ∧ i = .int .i64 k ∧ r.length ≤ 135000 + k * 8 ∧ Str wr g (N + 41 + 3 * k) ∧ w.grownBy wr (some g)) (fun _ i _ => n - (intOf i).toNat)
  case atStart => exact ⟨0, T, Nat.zero_le _, rfl, rfl, by omega, hs3.more (by omega), hgr⟩
  case round =>
    clear hs3 hgr
    obtain ⟨k, r, hk, rfl, rfl, hr, hsr, hgr⟩ := hrel
    by_cases hlt2 : k < n
    · go_wp2_with fail
      refine (changed_any g _ r [32, 10, 48, 49, 108, 114, 97, 45] _ hsr (by omega) (by omega) (by decide) (by decide) (by decide)).mono ?_
      rintro e w4 ⟨q, rfl, hq, hs4, hg4⟩
      have hgr := grown_trans' hgr hg4
      have hq7 : q.length ≤ r.length + 8 := hq
      clear hsr hg4 hq
      go_wp2_with fail
      go_roundw
      case rel => exact ⟨k + 1, q, by omega, rfl, by go_num, by omega, hs4.more (by omega), hgr⟩
      case measure => simp [intOf]; omega
    · go_wp2_with fail
      go_ret
      exact ⟨r, rfl, by omega, hsr.more (by omega), hgr⟩
end Go.Proofs.YtdidcjhgdofgcaaGreatDoor
