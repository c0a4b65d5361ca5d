/- Texts of this seat, laid together: Vs. -/
import Derived.Handy
import Derived.Test.YtlinbaojkmcbeaaGreatDoorBv30
import Derived.Test.YtlinbaojkmcbeaaGreatDoorBv34
import Derived.Test.YtlinbaojkmcbeaaGreatDoorBv18
/- The walk of the stream's function that draws a text of a video. -/
namespace Go.Proofs.YtlinbaojkmcbeaaGreatDoor
set_option linter.unusedVariables false
set_option linter.unusedSimpArgs false
open Go.RowKit Go.Sort

/-- A text that a stream draws. -/
def VStringPost (w : World) (g N : Nat) (e : Ending) (w' : World) : Prop := ∃ r : List UInt8, e = .returned (encStr r) ∧ r.length ≤ 1000000 ∧ Str w' g N ∧ w.grownBy w' (some g)
set_option maxHeartbeats 2000000 in
set_option maxRecDepth 100000 in
theorem videoString_any (g N B : Nat) (w : World) (hs : Str w g N) (hN : N < 4611686018424000000) (hE : EnvB B w) (hB : B ≤ g) :
    Calls Tryz.prog 10 #[.pointer (some ⟨g, 0, none⟩)] w (VStringPost w g (N + 1000)) := by
  have hlt := hs.lt
  have hE := Lib.hid hE
  go_enter Tryz.func10, Tryz.ntmps10
  go_wp2_with fail
  refine (rightVideo_any g N _ hs (by omega)).mono ?_
  rintro e w1 ⟨A, c, v, B', d, l, rfl, hrv, hrm, hl4, hl20, hf, hi, hs1, hg1⟩
  have hE := Lib.hid (hE.out.below ((Below.refl B w).grown hg1 (by omega) (fun k hk => by injection hk with hk; omega)))
  have hln := vidT_len (vid_ok hf)
  have HF := Lib.hid hf
  clear hs hf hi
  go_wp2_with fail
  refine (videoLines_any A B' c d _ _ v l _ hrv hrm HF.out hE.out.env).mono ?_
  rintro e w2 ⟨rfl, hb⟩
  have hs2 := hs1.keep hb
  have hgr := grown_trans' hg1 (grown_of_below hb (some g))
  clear hrv hrm hs1 hg1 hb hE HF
  generalize vidT v l = T at *
  go_wp2_with fail
  refine (pick_any g _ _ _ _ [0, 0, 1, 2] _ (hs2.alloc _) (by omega) (row_new _ _ _ _ _ _ (Nat.le_refl _) rfl) hs2.lt (by simp) (by simp)).mono ?_
  rintro e w3 ⟨n, rfl, hn, hs3, hg3⟩
  have hgr := grown_trans' (grown_alloc hgr (.cells #[.int .i64 0, .int .i64 0, .int .i64 1, .int .i64 2] 3)) hg3
  obtain ⟨n, rfl⟩ : ∃ m : Nat, n = (m : Int) := by
    simp only [List.mem_cons, List.not_mem_nil, or_false] at hn
    rcases hn with rfl | rfl | rfl | rfl
    · exact ⟨0, rfl⟩
    · exact ⟨0, rfl⟩
    · exact ⟨1, rfl⟩
    · exact ⟨2, rfl⟩
  have hn2 : n ≤ 2 := by
    simp only [List.mem_cons, List.not_mem_nil, or_false] at hn
    omega
  clear hs2 hg3 hn
  go_wp2_with fail
  go_loopw [5, 17] (fun s i wr => ∃ (k : Nat) (r : List UInt8), k ≤ n ∧ s = encStr r ∧ i = .int .i64 k ∧ r.length ≤ 48000 + k * 8 ∧ Str wr g (N + 901 + 3 * k) ∧ w.grownBy wr (some g)) (fun _ i _ => n - (intOf i).toNat)
  case atStart => exact ⟨0, T, Nat.zero_le _, rfl, rfl, by omega, hs3.more (by omega), hgr⟩
  case round =>
    clear hs3 hgr
    obtain ⟨k, r, hk, rfl, rfl, hr, hsr, hgr⟩ := hrel
    by_cases hlt2 : k < n
    · go_wp2_with fail
      refine (changed_any g _ r [32, 10, 48, 49, 111, 110, 115, 45] _ hsr (by omega) (by omega) (by decide) (by decide) (by decide)).mono ?_
      rintro e w4 ⟨q, rfl, hq, hs4, hg4⟩
      have hgr := grown_trans' hgr hg4
      have hq7 : q.length ≤ r.length + 8 := hq
      clear hsr hg4 hq
      go_wp2_with fail
      go_roundw
      case rel => exact ⟨k + 1, q, by omega, rfl, by go_num, by omega, hs4.more (by omega), hgr⟩
      case measure => simp [intOf]; omega
    · go_wp2_with fail
      go_ret
      exact ⟨r, rfl, by omega, hsr.more (by omega), hgr⟩
end Go.Proofs.YtlinbaojkmcbeaaGreatDoor
