/- slices.SortFunc over flaws, out of the library's contract. -/
import Derived.Test.YtlnencloodlnbaaFlD
import Derived.Test.YtlnencloodlnbaaSrt
import Derived.Test.YtlnencloodlnbaaShelfF
namespace Go.Proofs.Ytlnencloodlnbaa
open Go.RowKit Go.Sort

theorem cmpF_swo : SWO (ltOf cmpF) where
  irrefl x := by unfold ltOf; simp only [decide_eq_false_iff_not]; rw [cmpF_lt]; omega
  trans x y z h1 h2 := by unfold ltOf at *; simp only [decide_eq_true_eq] at *; rw [cmpF_lt] at *; omega
  ntrans x y z h1 h2 := by unfold ltOf at *; simp only [decide_eq_false_iff_not] at *; rw [cmpF_lt] at *; omega

theorem sortsF : SortsF := by
  intro A c base zs w ho hl hb
  have h := sortK_own (α := Flw) Try.sortFlaw 3 (by omega) Try.isAgg42 Try.sizeOf42 encF (fun _ => rfl) (fun x v hv => by simp [encF] at hv; rcases hv with rfl | rfl | rfl <;> rfl) cmpF cmpF_swo 30 #[] (enters_of Try.func30 (by kernel_rfl) rfl)
    (fun x y w => flawsCmp_any x y w) A c base 42 zs w ho hl
  change Calls Try.prog 29 _ _ _ at h
  refine h.mono ?_
  rintro e w' ⟨rfl, ys, hp, hs, hown, hg⟩
  exact ⟨rfl, ys, hp, hs, hown, below_of_grown hg hb (fun k hk => (ho.lt k hk).1)⟩
end Go.Proofs.Ytlnencloodlnbaa
