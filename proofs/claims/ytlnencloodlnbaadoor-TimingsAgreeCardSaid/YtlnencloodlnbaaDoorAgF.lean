/- The walks of slices.Concat of two slices of strings, and SumsFault. -/
import Derived.Test.YtlnencloodlnbaaDoorAgE
namespace Go.Proofs.YtlnencloodlnbaaDoor
open Go.RowKit Go.Sort

set_option maxHeartbeats 1000000 in
theorem concatS_any (A B : Option Addr) (c d lo lo' g r : Nat) (a b : List Sm) (w : World) (hr : Row w lo 1 A a.length (strs a)) (hr' : Row w lo' 1 B b.length (strs b)) (hl : a.length ≤ 200000) (hl' : b.length ≤ 200000) (c0 : w.cell? ⟨g, 0, none⟩ = some (.slice A a.length c)) (c1 : w.cell? ⟨g, 1, none⟩ = some (.slice B b.length d)) :
    Calls Tryd.prog 26 #[.slice (some ⟨g, 0, none⟩) 2 r] w fun e w' => ∃ A' c', e = .returned (.slice A' (a ++ b).length c') ∧ w'.ownsRow w.heap.size 9 1 (.slice A' (a ++ b).length c') (a ++ b).length (strs (a ++ b)) ∧ Below w.heap.size w w' := by
  go_enter Tryd.func26, Tryd.ntmps26
  go_wp2_with fail
  go_loop [3, 11] (fun s i => (i = .int .i64 0 ∧ s = .int .i64 0) ∨ (i = .int .i64 1 ∧ s = .int .i64 a.length) ∨ (i = .int .i64 2 ∧ s = .int .i64 ((a.length + b.length : Nat) : Int))) (fun _ i => 2 - (intOf i).toNat)
  case atStart => exact .inl ⟨rfl, rfl⟩
  case round =>
    rcases hrel with ⟨rfl, rfl⟩ | ⟨rfl, rfl⟩ | ⟨rfl, rfl⟩
    · go_wp2_with fail
      go_round
      case rel => exact .inr (.inl ⟨rfl, by go_num⟩)
      case measure => simp [intOf]
    · go_wp2_with fail
      go_round
      case rel => exact .inr (.inr ⟨rfl, by go_num⟩)
      case measure => simp [intOf]
    · go_wp2_with fail
      refine (growS_any (a.length + b.length) _ (by omega)).mono ?_
      rintro e w1 ⟨A1, c1', rfl, hown1, hb1⟩
      have k0 : w1.cell? ⟨g, 0, none⟩ = some (.slice A a.length c) := (World.cell?_of_block (hb1.block g (World.block_lt_of_cell? w _ c0))).trans c0
      have k1 : w1.cell? ⟨g, 1, none⟩ = some (.slice B b.length d) := (World.cell?_of_block (hb1.block g (World.block_lt_of_cell? w _ c0))).trans c1
      have z1 := hb1.size
      have zg : g < w.heap.size := World.block_lt_of_cell? w _ c0
      have hra := hr.below hb1
      go_wp2_with fail
      go_loopw [6, 27] (fun o i wr => (i = .int .i64 0 ∧ ∃ A2 c2, o = .slice A2 0 c2 ∧ wr.ownsRow w.heap.size 9 1 (.slice A2 0 c2) 0 (strs []) ∧ Below w.heap.size w wr) ∨ (i = .int .i64 1 ∧ ∃ A2 c2, o = .slice A2 a.length c2 ∧ wr.ownsRow w.heap.size 9 1 (.slice A2 a.length c2) a.length (strs a) ∧ Below w.heap.size w wr) ∨ (i = .int .i64 2 ∧ ∃ A2 c2, o = .slice A2 (a ++ b).length c2 ∧ wr.ownsRow w.heap.size 9 1 (.slice A2 (a ++ b).length c2) (a ++ b).length (strs (a ++ b)) ∧ Below w.heap.size w wr)) (fun _ i _ => 2 - (intOf i).toNat)
      case atStart => exact .inl ⟨rfl, A1, c1', rfl, hown1, hb1⟩
      case round =>
        rcases hrel with ⟨rfl, A2, c2, rfl, hown, hbw⟩ | ⟨rfl, A2, c2, rfl, hown, hbw⟩ | ⟨rfl, A2, c2, rfl, hown, hbw⟩
        · have e0 : wr.cell? ⟨g, 0, none⟩ = some (.slice A a.length c) := (World.cell?_of_block (hbw.block g zg)).trans c0
          have zw := hbw.size
          have hrw := hr.below hbw
          go_wp2_with (at_builtin; go_must (refine wpList_app (lo := lo) (base := w.heap.size) (n := 0) (xs := strs []) _ _ rfl _ _ ty_strs rfl hown rfl hrw rfl (strs_all _) (by omega) (by omega) (by omega) ?_))
          intro A5 c5 w5 hown5 hg5 _
          go_wp2_with fail
          go_roundw
          case rel => exact .inr (.inl ⟨rfl, A5, c5, by simp, by simpa [strs] using hown5, below_app hown hbw hg5 (Nat.le_refl _) (by omega)⟩)
          case measure => simp [intOf]
        · have e1 : wr.cell? ⟨g, 1, none⟩ = some (.slice B b.length d) := (World.cell?_of_block (hbw.block g zg)).trans c1
          have zw := hbw.size
          have hrw := hr'.below hbw
          go_wp2_with (at_builtin; go_must (refine wpList_app (lo := lo') (base := w.heap.size) (n := a.length) (xs := strs a) _ _ rfl _ _ ty_strs rfl hown rfl hrw rfl (strs_all _) (by omega) (by omega) (by omega) ?_))
          intro A5 c5 w5 hown5 hg5 _
          go_wp2_with fail
          go_roundw
          case rel => exact .inr (.inr ⟨rfl, A5, c5, by simp, by simpa [strs] using hown5, below_app hown hbw hg5 (Nat.le_refl _) (by omega)⟩)
          case measure => simp [intOf]
        · go_wp2_with fail
          go_ret
          exact ⟨A2, c2, rfl, hown, hbw⟩

theorem msF_any {a b : List Sm} (h1 : ¬ 200000 < a.length) (h2 : ¬ 200000 < b.length) : msF a b = if ((a ++ b).any fun s => !isSum s) = true then 3 else 0 := by
  rw [msF, if_neg (by omega), List.any_append]
  unfold sF
  cases (a.any fun s => !isSum s) <;> cases (b.any fun s => !isSum s) <;> rfl

set_option maxHeartbeats 1000000 in
theorem sumsFaultR_any (A B : Option Addr) (c d lo lo' : Nat) (a b : List Sm) (w : World) (hr : Row w lo 1 A a.length (strs a)) (hr' : Row w lo' 1 B b.length (strs b)) (hl : a.length ≤ 1000000000) (hl' : b.length ≤ 1000000000) (hs : ∀ s ∈ a, s.length ≤ 9223372036854775807) (hs' : ∀ s ∈ b, s.length ≤ 9223372036854775807) :
    Calls Tryd.prog 12 #[.slice A a.length c, .slice B b.length d] w fun e w' => e = .returned (.int .i64 (msF a b)) ∧ Below w.heap.size w w' := by
  by_cases hla : 200000 < a.length ∨ 200000 < b.length
  · have HF : Hid (msF a b = 2) := Lib.hid (by rw [msF, if_pos hla])
    clear hs hs'
    by_cases h1 : 200000 < a.length
    · go_enter Tryd.func12, Tryd.ntmps12
      go_wp2_with fail
      go_ret
      exact ⟨ret_int' HF.out.symm, Below.refl _ _⟩
    · have h2 : 200000 < b.length := by omega
      go_enter Tryd.func12, Tryd.ntmps12
      go_wp2_with fail
      go_ret
      exact ⟨ret_int' HF.out.symm, Below.refl _ _⟩
  · have h1 : ¬ 200000 < a.length := by omega
    have h2 : ¬ 200000 < b.length := by omega
    have HF := Lib.hid (msF_any h1 h2)
    have HS : Hid (∀ s ∈ a ++ b, s.length ≤ 9223372036854775807) := Lib.hid (fun s h => by
      rcases List.mem_append.1 h with h | h
      · exact hs s h
      · exact hs' s h)
    clear hs hs' hla
    go_enter Tryd.func12, Tryd.ntmps12
    go_wp2_with fail
    have kb := Blk.new w 33 #[.slice A a.length c, .slice B b.length d]
    have hb0 : Below w.heap.size w (w.alloc (.cells #[.slice A a.length c, .slice B b.length d] 33)) := (Below.refl _ _).alloc (Nat.le_refl _) _
    refine (concatS_any A B c d lo lo' w.heap.size _ a b _ (hr.alloc _) (hr'.alloc _) (by omega) (by omega) (kb.cell 0) (kb.cell 1)).mono ?_
    rintro e w1 ⟨A1, c1, rfl, hown1, hb1⟩
    have hx1 := below_up hb0 hb1
    have hcf := containsFuncR_any A1 c1 _ (a ++ b) w1 (Row.of_own hown1) (by simp; omega) HS.out
    rw [List.length_append] at hcf
    clear kb hb0 hb1 hown1
    go_wp2_with fail
    refine hcf.mono ?_
    rintro e w2 ⟨rfl, hb2⟩
    have hx2 := below_up hx1 hb2
    clear hcf hb2 hx1
    cases hp : (a ++ b).any fun s => !isSum s
    · have HV : Hid (msF a b = 0) := Lib.hid (by rw [HF.out, hp]; rfl)
      clear hp HF
      go_wp2_with fail
      go_ret
      exact ⟨ret_int' HV.out.symm, hx2⟩
    · have HV : Hid (msF a b = 3) := Lib.hid (by rw [HF.out, hp]; rfl)
      clear hp HF
      go_wp2_with fail
      go_ret
      exact ⟨ret_int' HV.out.symm, hx2⟩
end Go.Proofs.YtlnencloodlnbaaDoor
