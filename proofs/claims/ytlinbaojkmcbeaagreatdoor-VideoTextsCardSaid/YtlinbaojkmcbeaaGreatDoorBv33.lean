/- Texts of this seat, laid together: MkM. -/
import Derived.StillTailTactics
import Derived.Test.YtlinbaojkmcbeaaGreatDoorBv32
import Derived.Test.YtlinbaojkmcbeaaGreatDoorBv20
/- The walk of the stream's function that draws marks. -/
namespace Go.Proofs.YtlinbaojkmcbeaaGreatDoor
set_option linter.unusedVariables false
set_option linter.unusedSimpArgs false
open Go.RowKit

def MarksPost (w : World) (g N : Nat) (e : Ending) (w' : World) : Prop :=
  ∃ (A : Option Addr) (c : Nat) (l : List Mk), e = .returned (.slice A l.length c) ∧ w'.ownsRow w.heap.size 45 2 (.slice A l.length c) l.length (prs l) ∧ l.length ≤ 20 ∧ Str w' g N ∧ w.grownBy w' (some g)

theorem own_prs_set2' {w : World} {base : Nat} {e : TypeId} {g c : Nat} {ps : List (Int × Int)} (h : w.ownsRow base e 2 (.slice (some ⟨g, 0, none⟩) ps.length c) ps.length (prs ps)) (k : Nat) (hk : k < ps.length) (x y : Int) :
    ((w.setCell ⟨g, k * 2 + 1, none⟩ (.int .i64 y)).setCell ⟨g, k * 2, none⟩ (.int .i64 x)).ownsRow base e 2 (.slice (some ⟨g, 0, none⟩) ps.length c) ps.length (prs (ps.set k (x, y))) := by
  rw [← prs_set2 ps k hk, List.set_comm _ _ (by omega)]
  exact ((h.stored (k * 2 + 1) _).1.stored (k * 2) _).1
theorem Ms.more {w0 w : World} {g N N' p5 p6 p2 p7 : Nat} {n at_ : Int} {A : Option Addr} {c : Nat} {l : List Mk} (h : Ms w0 w g N p5 p6 p2 p7 n at_ A c l) (hN : N ≤ N') : Ms w0 w g N' p5 p6 p2 p7 n at_ A c l := ⟨h.1.more hN, h.2, h.3, h.4, h.5, h.6, h.7, h.8, h.9, h.10⟩

set_option maxHeartbeats 4000000 in
theorem marks_any (g N lo c : Nat) (A : Option Addr) (v : List St) (w : World) (hs : Str w g N) (hN : N < 4611686018427386000) (hr : Row w lo 3 A v.length (trs v)) (hl : v.length ≤ 1000000000) (hi : ∀ s ∈ v, s.2.1 ≤ 9223372036854775807) :
    Calls Tryz.prog 6 #[.pointer (some ⟨g, 0, none⟩), .slice A v.length c] w (MarksPost w g (N + 60)) := by
  have hlt := hs.lt
  have HI := Lib.hid hi
  clear hi
  have hmf : ∀ (fn : Fn) (first cap : Array Value) (w : World), (Instr.makeFunc fn first cap).run Tryz.prog w = .ok (.func fn first cap) w := fun _ _ _ _ => rfl
  go_enter Tryz.func6, Tryz.ntmps6
  go_wp2_with fail
  have hba : Below w.heap.size w (w.alloc (.cells #[.pointer (some ⟨g, 0, none⟩)] 23)) := (Below.refl _ _).alloc (Nat.le_refl _) _
  refine (videoFault_any _ _ _ v _ (hr.alloc _) hl HI.out).mono ?_
  rintro e w1 ⟨rfl, hb1⟩
  have hx1 := below_up hba hb1
  have kb1 := (Blk.new w 23 #[.pointer (some ⟨g, 0, none⟩)]).below hb1
  clear hb1
  by_cases h0 : vFault v = 0
  · have h0' : (vFault v != 0) = false := by simpa using h0
    have HG := Lib.hid (vFault_ok h0)
    have s1 := HG.out.sum
    have s0 := fsum_nonneg v HG.out.nonneg
    clear h0
    go_wp2_with fail
    refine (framesIn_any _ _ _ v _ (hr.below hx1) hl HG.out.nonneg (by omega)).mono ?_
    rintro e w2 ⟨rfl, hb2⟩
    have hx2 := below_up hx1 hb2
    have kb2 := kb1.below hb2
    have hs2 := hs.keep hx2
    have z2 := hx2.size
    have z2' := kb2.lt
    clear hb2 hx1 kb1 h0'
    generalize fsum v = n at *
    go_upto_region 4 with (fail)
    have b5 := Blk.new w2 3 #[.int .i64 n]
    have b2 := kb2.alloc (.cells #[.int .i64 n] 3)
    have str3 := hs2.alloc (.cells #[.int .i64 n] 3)
    have gr3 : w.grownBy (w2.alloc (.cells #[.int .i64 n] 3)) (some g) := grown_alloc (grown_of_below hx2 _) _
    have hz3 : (w2.alloc (.cells #[.int .i64 n] 3)).heap.size = w2.heap.size + 1 := by simp
    generalize w2.alloc (.cells #[.int .i64 n] 3) = w3 at *
    clear kb2 hs2 hx2
    have k5 : w3.drew.cell? ⟨w2.heap.size, 0, none⟩ = some (.int .i64 n) := b5.cell 0
    have k2 : w3.drew.cell? ⟨w.heap.size, 0, none⟩ = some (.pointer (some ⟨g, 0, none⟩)) := b2.cell 0
    have z3 := str3.lt
    have HZ3 := Lib.hid hz3
    clear hz3
    have HK : Hid (∀ w', w3.grownBy w' (some g) → w'.cell? ⟨w2.heap.size, 0, none⟩ = some (.int .i64 n) ∧ w'.cell? ⟨w.heap.size, 0, none⟩ = some (.pointer (some ⟨g, 0, none⟩))) := Lib.hid (fun w' h => ⟨(b5.grown h (by omega)).cell 0, (b2.grown h (by omega)).cell 0⟩)
    go_cut [6] (fun s6 wx => ∃ (p6 : Nat) (a : Int), s6 = .pointer (some ⟨p6, 0, none⟩) ∧ 0 ≤ a ∧ a ≤ 10000000 ∧ Str wx g (N + 1) ∧ w.grownBy wx (some g) ∧ Blk wx w2.heap.size 3 #[.int .i64 n] ∧ Blk wx w.heap.size 23 #[.pointer (some ⟨g, 0, none⟩)] ∧ Blk wx p6 3 #[.int .i64 a] ∧ w2.heap.size < p6)
    case first =>
      refine wp_region_held_drew (S := (fun w' => w'.cell? ⟨w2.heap.size, 0, none⟩ = some (.int .i64 n) ∧ w'.cell? ⟨w.heap.size, 0, none⟩ = some (.pointer (some ⟨g, 0, none⟩)))) (by kernel_rfl) ⟨k5, k2⟩ (fun hHeld => ?_)
      (refine wpAnyH_take (i := 0) (v := ?_) (by (simp only [List.getElem?_toArray, List.getElem?_cons_zero]; rfl)) (by kernel_rfl) (by kernel_rfl) (by kernel_rfl) (by exact fun _ _ _ h => h) (Or.inl ⟨by rfl, ?_⟩) (by assumption) ?_; (rotate_left 1; (intro w hSw; (try dsimp only at hSw); go_simp); (try with_reducible rfl)); (try simp only [Act.put, List.setIfInBounds_toArray, List.set_cons_zero, List.set_cons_succ]))
      (refine wpAnyH_take (i := 1) (v := ?_) (by (simp only [List.getElem?_toArray, List.getElem?_cons_succ, List.getElem?_cons_zero]; rfl)) (by kernel_rfl) (by kernel_rfl) (by kernel_rfl) (by exact fun _ _ _ h => h) (Or.inl ⟨by rfl, ?_⟩) (by assumption) ?_; (rotate_left 1; (intro w hSw; (try dsimp only at hSw); go_simp); (try with_reducible rfl)); (try simp only [Act.put, List.setIfInBounds_toArray, List.set_cons_zero, List.set_cons_succ]))
      refine wpAnyH_ready (rs := [2, 5]) (by kernel_rfl) (by simp) ?_
      refine AllReadyH.cons rfl (fun K hK => ?_) (AllReadyH.cons rfl (fun K hK => ?_) AllReadyH.nil)
      case refine_1 =>
        go_simp
        refine hK.out _ _ (HK.out _ (by repeat (first | exact World.grownBy.refl _ _ | refine grown_alloc ?_ _ | refine grown_drewN ?_ _ | refine grown_drew ?_))) (fun _ => ?_)
        clear hK K
        (try simp only [Act.put, List.setIfInBounds_toArray, List.set_cons_zero, List.set_cons_succ])
        refine wpAnyH_ready (rs := [3, 5]) (by kernel_rfl) (by simp) ?_
        refine AllReadyH.cons rfl (fun K hK => ?_) (AllReadyH.cons rfl (fun K hK => ?_) AllReadyH.nil)
        case refine_1 =>
          go_simp
          go_at_call 19
          refine (pick_any g N (g + 1) _ _ [0, 0, 1, 5] _ (by repeat (first | exact str3 | refine Str.alloc ?_ _ | refine Str.drewN ?_ _ | refine Str.drew ?_)) (by omega) (by first | exact row_new' _ (by first | rfl | simp) (by first | omega | (simp; omega)) rfl | exact row_newN _ _ (by first | rfl | simp) (by first | omega | (simp; omega)) rfl | exact row_newD _ (by first | rfl | simp) (by first | omega | (simp; omega)) rfl) (by omega) (by simp) (by simp)).mono ?_
          rintro e w5 ⟨r, rfl, hr, hs5, hg5⟩
          have hgk : w3.grownBy w5 (some g) := grown_trans' (by repeat (first | exact World.grownBy.refl _ _ | refine grown_alloc ?_ _ | refine grown_drewN ?_ _ | refine grown_drew ?_)) hg5
          have hr0 : 0 ≤ r ∧ r ≤ 5 := by simp at hr; omega
          clear hr
          go_wp2_with fail
          refine hK.out _ _ (HK.out _ hgk) (fun _ => ?_)
          clear hK K
          (try simp only [Act.put, List.setIfInBounds_toArray, List.set_cons_zero, List.set_cons_succ])
          (refine wpAnyH_take (i := 4) (v := ?_) (by (simp only [List.getElem?_toArray, List.getElem?_cons_succ, List.getElem?_cons_zero]; rfl)) (by kernel_rfl) (by kernel_rfl) (by kernel_rfl) (by exact fun _ _ _ h => h) (Or.inl ⟨by rfl, ?_⟩) (by assumption) ?_; (rotate_left 1; (intro w hSw; (try dsimp only at hSw); go_simp); (try with_reducible rfl)); (try simp only [Act.put, List.setIfInBounds_toArray, List.set_cons_zero, List.set_cons_succ]))
          have hab : 0 ≤ (if r < n then r else n) ∧ (if r < n then r else n) ≤ 10000000 := by split <;> omega
          generalize (if r < n then r else n) = a at *
          refine wpAnyH_ready (rs := [5]) (by kernel_rfl) (by simp) ?_
          refine AllReadyH.cons rfl (fun K hK => ?_) AllReadyH.nil
          go_simp
          refine hK.out _ _ (HK.out _ (by repeat (first | exact hgk | refine grown_alloc ?_ _ | refine grown_drewN ?_ _ | refine grown_drew ?_))) (fun _ => ?_)
          clear hK K
          (try simp only [Act.put, List.setIfInBounds_toArray, List.set_cons_zero, List.set_cons_succ])
          refine wpAnyH_ready (rs := [6]) (by kernel_rfl) (by simp) ?_
          refine AllReadyH.cons rfl (fun K hK => ?_) AllReadyH.nil
          go_simp
          have b5f := (b5.grown hgk (by omega)).alloc (.cells #[.int .i64 a] 3)
          have b2f := (b2.grown hgk (by omega)).alloc (.cells #[.int .i64 a] 3)
          refine hK.out _ _ ⟨b5f.cell 0, b2f.cell 0⟩ (fun _ => ?_)
          clear hK K
          refine wpAnyH_done (by kernel_rfl) ?_ _
          go_wp2_with fail
          go_meet
          exact ⟨w5.heap.size, a, rfl, hab.1, hab.2, hs5.alloc _, grown_alloc (grown_trans' gr3 hgk) _, b5f, b2f, Blk.new w5 3 #[.int .i64 a], by have := HZ3.out; have := hgk.size; omega⟩
        case refine_2 =>
          go_simp
          refine hK.out _ _ (HK.out _ (by repeat (first | exact World.grownBy.refl _ _ | refine grown_alloc ?_ _ | refine grown_drewN ?_ _ | refine grown_drew ?_))) (fun _ => ?_)
          clear hK K
          (try simp only [Act.put, List.setIfInBounds_toArray, List.set_cons_zero, List.set_cons_succ])
          refine wpAnyH_ready (rs := [3]) (by kernel_rfl) (by simp) ?_
          refine AllReadyH.cons rfl (fun K hK => ?_) AllReadyH.nil
          go_simp
          go_at_call 19
          refine (pick_any g N (g + 1) _ _ [0, 0, 1, 5] _ (by repeat (first | exact str3 | refine Str.alloc ?_ _ | refine Str.drewN ?_ _ | refine Str.drew ?_)) (by omega) (by repeat (first | exact row_newD _ rfl (by first | omega | (simp; omega)) rfl | refine Row.alloc ?_ _ | refine Row.drewN ?_ _ | refine Row.drew ?_)) (by omega) (by simp) (by simp)).mono ?_
          rintro e w5 ⟨r, rfl, hr, hs5, hg5⟩
          have hgk : w3.grownBy w5 (some g) := grown_trans' (by repeat (first | exact World.grownBy.refl _ _ | refine grown_alloc ?_ _ | refine grown_drewN ?_ _ | refine grown_drew ?_)) hg5
          have hr0 : 0 ≤ r ∧ r ≤ 5 := by simp at hr; omega
          clear hr
          go_wp2_with fail
          have b6 : Blk w5 (w3.heap.size + 1) 3 #[.int .i64 0] := by have := (Blk.new (w3.alloc (.cells #[.int .i64 0, .int .i64 0, .int .i64 1, .int .i64 5] 3)) 3 #[.int .i64 0]).grown (grown_undrew hg5) (by simp; omega); rwa [World.size_alloc] at this
          have kc6 : w5.cell? ⟨w3.heap.size + 1, 0, none⟩ = some (.int .i64 0) := b6.cell 0
          have kf6 := b6.froze 0
          refine hK.out _ _ (HK.out _ hgk) (fun _ => ?_)
          clear hK K
          (try simp only [Act.put, List.setIfInBounds_toArray, List.set_cons_zero, List.set_cons_succ])
          (refine wpAnyH_take (i := 4) (v := ?_) (by (simp only [List.getElem?_toArray, List.getElem?_cons_succ, List.getElem?_cons_zero]; rfl)) (by kernel_rfl) (by kernel_rfl) (by kernel_rfl) (by exact fun _ _ _ h => h) (Or.inl ⟨by rfl, ?_⟩) (by assumption) ?_; (rotate_left 1; (intro w hSw; (try dsimp only at hSw); go_simp); (try with_reducible rfl)); (try simp only [Act.put, List.setIfInBounds_toArray, List.set_cons_zero, List.set_cons_succ]))
          have hab : 0 ≤ (if r < n then r else n) ∧ (if r < n then r else n) ≤ 10000000 := by split <;> omega
          generalize (if r < n then r else n) = a at *
          refine wpAnyH_ready (rs := [6]) (by kernel_rfl) (by simp) ?_
          refine AllReadyH.cons rfl (fun K hK => ?_) AllReadyH.nil
          go_simp
          have b5f := (b5.grown hgk (by omega)).setO (p := ⟨w3.heap.size + 1, 0, none⟩) (by have := HZ3.out; simp; omega) (.int .i64 a)
          have b2f := (b2.grown hgk (by omega)).setO (p := ⟨w3.heap.size + 1, 0, none⟩) (by have := HZ3.out; simp; omega) (.int .i64 a)
          have b6f := b6.set 0 (.int .i64 a)
          refine hK.out _ _ ⟨b5f.cell 0, b2f.cell 0⟩ (fun _ => ?_)
          clear hK K
          refine wpAnyH_done (by kernel_rfl) ?_ _
          go_wp2_with fail
          go_meet
          exact ⟨w3.heap.size + 1, a, rfl, hab.1, hab.2, hs5.set (by have := HZ3.out; simp; omega) _, grown_set_new (grown_trans' gr3 hgk) (by have := HZ3.out; simp; omega) _, b5f, b2f, b6f, by have := HZ3.out; omega⟩
      case refine_2 =>
        go_simp
        refine hK.out _ _ (HK.out _ (by repeat (first | exact World.grownBy.refl _ _ | refine grown_alloc ?_ _ | refine grown_drewN ?_ _ | refine grown_drew ?_))) (fun _ => ?_)
        clear hK K
        (try simp only [Act.put, List.setIfInBounds_toArray, List.set_cons_zero, List.set_cons_succ])
        refine wpAnyH_ready (rs := [2]) (by kernel_rfl) (by simp) ?_
        refine AllReadyH.cons rfl (fun K hK => ?_) AllReadyH.nil
        go_simp
        refine hK.out _ _ (HK.out _ (by repeat (first | exact World.grownBy.refl _ _ | refine grown_alloc ?_ _ | refine grown_drewN ?_ _ | refine grown_drew ?_))) (fun _ => ?_)
        clear hK K
        (try simp only [Act.put, List.setIfInBounds_toArray, List.set_cons_zero, List.set_cons_succ])
        refine wpAnyH_ready (rs := [3]) (by kernel_rfl) (by simp) ?_
        refine AllReadyH.cons rfl (fun K hK => ?_) AllReadyH.nil
        go_simp
        go_at_call 19
        refine (pick_any g N (g + 1) _ _ [0, 0, 1, 5] _ (by repeat (first | exact str3 | refine Str.alloc ?_ _ | refine Str.drewN ?_ _ | refine Str.drew ?_)) (by omega) (by first | exact row_new' _ (by first | rfl | simp) (by first | omega | (simp; omega)) rfl | exact row_newN _ _ (by first | rfl | simp) (by first | omega | (simp; omega)) rfl | exact row_newD _ (by first | rfl | simp) (by first | omega | (simp; omega)) rfl) (by omega) (by simp) (by simp)).mono ?_
        rintro e w5 ⟨r, rfl, hr, hs5, hg5⟩
        have hgk : w3.grownBy w5 (some g) := grown_trans' (by repeat (first | exact World.grownBy.refl _ _ | refine grown_alloc ?_ _ | refine grown_drewN ?_ _ | refine grown_drew ?_)) hg5
        have hr0 : 0 ≤ r ∧ r ≤ 5 := by simp at hr; omega
        clear hr
        go_wp2_with fail
        have b6 : Blk w5 w3.heap.size 3 #[.int .i64 0] := ((Blk.new w3 3 #[.int .i64 0]).alloc (.cells #[.int .i64 0, .int .i64 0, .int .i64 1, .int .i64 5] 3)).grown (grown_undrew hg5) (by omega)
        have kc6 : w5.cell? ⟨w3.heap.size, 0, none⟩ = some (.int .i64 0) := b6.cell 0
        have kf6 := b6.froze 0
        refine hK.out _ _ (HK.out _ hgk) (fun _ => ?_)
        clear hK K
        (try simp only [Act.put, List.setIfInBounds_toArray, List.set_cons_zero, List.set_cons_succ])
        (refine wpAnyH_take (i := 4) (v := ?_) (by (simp only [List.getElem?_toArray, List.getElem?_cons_succ, List.getElem?_cons_zero]; rfl)) (by kernel_rfl) (by kernel_rfl) (by kernel_rfl) (by exact fun _ _ _ h => h) (Or.inl ⟨by rfl, ?_⟩) (by assumption) ?_; (rotate_left 1; (intro w hSw; (try dsimp only at hSw); go_simp); (try with_reducible rfl)); (try simp only [Act.put, List.setIfInBounds_toArray, List.set_cons_zero, List.set_cons_succ]))
        have hab : 0 ≤ (if r < n then r else n) ∧ (if r < n then r else n) ≤ 10000000 := by split <;> omega
        generalize (if r < n then r else n) = a at *
        refine wpAnyH_ready (rs := [6]) (by kernel_rfl) (by simp) ?_
        refine AllReadyH.cons rfl (fun K hK => ?_) AllReadyH.nil
        go_simp
        have b5f := (b5.grown hgk (by omega)).setO (p := ⟨w3.heap.size, 0, none⟩) (by have := HZ3.out; simp; omega) (.int .i64 a)
        have b2f := (b2.grown hgk (by omega)).setO (p := ⟨w3.heap.size, 0, none⟩) (by have := HZ3.out; simp; omega) (.int .i64 a)
        have b6f := b6.set 0 (.int .i64 a)
        refine hK.out _ _ ⟨b5f.cell 0, b2f.cell 0⟩ (fun _ => ?_)
        clear hK K
        refine wpAnyH_done (by kernel_rfl) ?_ _
        go_wp2_with fail
        go_meet
        exact ⟨w3.heap.size, a, rfl, hab.1, hab.2, hs5.set (by have := HZ3.out; simp; omega) _, grown_set_new (grown_trans' gr3 hgk) (by have := HZ3.out; simp; omega) _, b5f, b2f, b6f, by have := HZ3.out; omega⟩
    case rest =>
      obtain ⟨p6, a, rfl, a0, a1, hs4, gr4, b5, b2, b6, hp6⟩ := hcut
      clear k5 k2 HK str3 gr3
      have z4 := gr4.size
      have y6 : wc.cell? ⟨p6, 0, none⟩ = some (.int .i64 a) := b6.cell 0
      have y2 : wc.cell? ⟨w.heap.size, 0, none⟩ = some (.pointer (some ⟨g, 0, none⟩)) := b2.cell 0
      have o1 : ((wc.alloc (.cells #[.int .i64 a, .int .i64 1] 45)).alloc (.cells #[.slice (some ⟨wc.heap.size, 0, none⟩) 1 1] 28)).ownsRow w.heap.size 45 2 (.slice (some ⟨wc.heap.size, 0, none⟩) 1 1) 1 (prs [(a, 1)]) := World.ownsRow.alloc ⟨rfl, .inr ⟨wc.heap.size, 1, #[.int .i64 a, .int .i64 1], rfl, z4, heap_alloc_new _ _, Nat.le_refl _, by decide, rfl, rfl⟩⟩ _
      have hms : Ms w ((wc.alloc (.cells #[.int .i64 a, .int .i64 1] 45)).alloc (.cells #[.slice (some ⟨wc.heap.size, 0, none⟩) 1 1] 28)) g (N + 1) w2.heap.size p6 w.heap.size (wc.heap.size + 1) n a (some ⟨wc.heap.size, 0, none⟩) 1 [(a, 1)] := by
        have l6 := b6.lt
        have l7 := b5.lt
        exact ⟨(hs4.alloc _).alloc _, (b5.alloc _).alloc _, (b6.alloc _).alloc _, (b2.alloc _).alloc _, by have := Blk.new (wc.alloc (.cells #[.int .i64 a, .int .i64 1] 45)) 28 #[.slice (some ⟨wc.heap.size, 0, none⟩) 1 1]; simpa using this, o1, grown_alloc (grown_alloc gr4 _) _, by omega, by omega, by omega⟩
      clear o1 b5 b2 b6 hs4
      have q2 := hms.cells.2.2.1
      have q7 := hms.cells.2.2.2.1
      go_wp2_with fail
      refine (range_any g _ _ _ _ hms.str (by omega) (by omega) (by omega) (by omega)).mono ?_
      rintro e w6 ⟨r, rfl, r0, r3, hs6, hg6⟩
      have h6 := hms.drawn hg6 hs6
      clear q2 q7 hms hg6 hs6 y6 y2 gr4
      obtain ⟨m, rfl⟩ := Int.eq_ofNat_of_zero_le r0
      generalize hp7 : wc.heap.size + 1 = p7 at *
      go_wp2_with fail
      go_loopw [26] (fun i wr => ∃ (k : Nat) (at_ : Int) (A' : Option Addr) (c' : Nat) (l : List Mk), k ≤ m ∧ i = .int .i64 k ∧ l.length ≤ 1 + 2 * k ∧ 1 ≤ l.length ∧ Ms w wr g (N + 2 + 3 * k) w2.heap.size p6 w.heap.size p7 n at_ A' c' l) (fun i _ => m - (intOf i).toNat)
      case atStart => exact ⟨0, a, _, _, [(a, 1)], by omega, rfl, by simp, by simp, h6⟩
      case round =>
        obtain ⟨k, at_, A', c', l, hk, rfl, hl1, hl2, hm⟩ := hrel
        have q2 := hm.cells.2.2.1
        by_cases hkm : k < m
        · go_wp2_with fail
          refine (flip_any g _ _ _ hm.str (by omega) (by omega)).mono ?_
          rintro e w7 ⟨bb, rfl, hs7, hg7⟩
          have h7 := hm.drawn hg7 hs7
          clear hs7 hg7 hm q2
          cases bb
          · go_wp2_with fail
            refine (step_any w g _ _ _ _ _ n at_ 5 A' c' l _ h7 (by omega) (by omega)).mono ?_
            rintro e w8 ⟨A8, c8, a8, rfl, h8⟩
            go_wp2_with fail
            go_roundw
            case rel => exact ⟨k + 1, a8, A8, c8, _, by omega, by go_num, by simp; omega, by simp, h8.more (by omega)⟩
            case measure => simp [intOf]; omega
          · go_wp2_with fail
            refine (step_any w g _ _ _ _ _ n at_ 3 A' c' l _ h7 (by omega) (by omega)).mono ?_
            rintro e w8 ⟨A8, c8, a8, rfl, h8⟩
            go_wp2_with fail
            refine (step_any w g _ _ _ _ _ n a8 4 A8 c8 _ _ h8 (by omega) (by simp; omega)).mono ?_
            rintro e w9 ⟨A9, c9, a9, rfl, h9⟩
            go_wp2_with fail
            go_roundw
            case rel => exact ⟨k + 1, a9, A9, c9, _, by omega, by go_num, by simp; omega, by simp, h9.more (by omega)⟩
            case measure => simp [intOf]; omega
        · clear q2
          go_wp2_with fail
          refine (step_any w g _ _ _ _ _ n at_ 2 A' c' l _ hm (by omega) (by omega)).mono ?_
          rintro e w8 ⟨A8, c8, a8, rfl, h8⟩
          have hl3 : (l ++ [(a8, 2)]).length ≤ 20 := by simp; omega
          have hl4 : 0 < (l ++ [(a8, 2)]).length := by simp
          clear hm hl1 hl2
          generalize l ++ [(a8, 2)] = ll at *
          have q2 := h8.cells.2.2.1
          go_wp2_with fail
          refine (flip_any g _ _ _ h8.str (by omega) (by omega)).mono ?_
          rintro e w9 ⟨bb, rfl, hs9, hg9⟩
          have h9 := h8.drawn hg9 hs9
          clear hs9 hg9 h8 q2
          have q7 := h9.cells.2.2.2.1
          cases bb
          · go_wp2_with fail
            refine bodyPost_ret (results_tmp rfl _ _ _) rfl ?_
            exact ⟨A8, c8, ll, rfl, h9.own, hl3, h9.str.more (by omega), h9.gr⟩
          · have q2 := h9.cells.2.2.1
            obtain ⟨gb, hA, hgb, hgb', -, -⟩ := ownBlk h9.own hl4
            subst hA
            have h9d := h9.drew
            have q7d : w9.drew.cell? ⟨p7, 0, none⟩ = some (.slice (some ⟨gb, 0, none⟩) ll.length c8) := q7
            have q2d : w9.drew.cell? ⟨w.heap.size, 0, none⟩ = some (.pointer (some ⟨g, 0, none⟩)) := q2
            clear q7 q2 h9
            go_wp2_with fail
            go_region_held3 (fun w' => w'.cell? ⟨p7, 0, none⟩ = some (.slice (some ⟨gb, 0, none⟩) ll.length c8) ∧ w'.cell? ⟨w.heap.size, 0, none⟩ = some (.pointer (some ⟨g, 0, none⟩))) (first | exact ⟨t7, t2⟩ | exact ⟨q7d, q2d⟩) (first | (go_at_call 20; refine (next_any g _ _ _ h9d.str (by omega) (by omega)).mono ?_; rintro e w10 ⟨r, rfl, r0', r1', r2', hs10, hg10⟩; have r3' := r1' (by omega); have h10 := h9d.drawn hg10 hs10; have t7 := h10.cells.2.2.2.1; have t2 := h10.cells.2.2.1; obtain ⟨j, rfl⟩ := Int.eq_ofNat_of_zero_le r0'; clear r1'))
            have hj : j < ll.length := by omega
            have lo10 := h10.lo
            have ne10 := h10.ne
            have N7 : Hid (p7 ≠ gb) := Lib.hid (fun he => own_ne h10.own h10.b7 (by decide) (by simp [Value.ownBlock, he]))
            have N5 : Hid (w2.heap.size ≠ gb) := Lib.hid (fun he => own_ne h10.own h10.b5 (by decide) (by simp [Value.ownBlock, he]))
            have N2 : Hid (w.heap.size ≠ gb) := Lib.hid (fun he => own_ne h10.own h10.b2 (by decide) (by simp [Value.ownBlock, he]))
            have HKX : Hid (∀ w', w10.grownBy w' (some g) → w'.cell? ⟨w2.heap.size, 0, none⟩ = some (.int .i64 n) ∧ w'.cell? ⟨w.heap.size, 0, none⟩ = some (.pointer (some ⟨g, 0, none⟩)) ∧ w'.cell? ⟨gb, j * 2, none⟩ = some (.int .i64 ll[j].1)) := Lib.hid (fun w' h => by
              refine ⟨(h10.b5.grown h (by omega)).cell 0, (h10.b2.grown h (by omega)).cell 0, ?_⟩
              obtain ⟨g3, hA3, _, _, hcb3, _⟩ := ownBlk (own_grown h10.own h (by omega)) hl4
              injection hA3 with hA3
              injection hA3 with hA3
              subst hA3
              exact hcb3 _ _ (prs_at ll j hj).1)
            have x10 := HKX.out w10.drew (by repeat (first | exact World.grownBy.refl _ _ | refine grown_alloc ?_ _ | refine grown_drewN ?_ _ | refine grown_drew ?_))
            have xc10 : w10.drew.cell? ⟨gb, j * 2, none⟩ = some (.int .i64 ll[j].1) := x10.2.2
            have rn : Row (w10.alloc (.cells #[.int .i64 ll[j].1, .int .i64 0, .int .i64 (n + 1), .int .i64 (-1)] 3)).drew (g + 1) 1 (some ⟨w10.heap.size, 0, none⟩) 4 (ints [ll[j].1, 0, n + 1, -1]) := row_new w10 #[.int .i64 ll[j].1, .int .i64 0, .int .i64 (n + 1), .int .i64 (-1)] 3 (g + 1) 1 4 h10.str.lt rfl
            have wn : IntKind.i64.wrap (n + 1) = n + 1 := IntWalk.i64_in _ ⟨by omega, by omega⟩
            clear t7 t2 hg10 hs10 q7d q2d h9d
            go_wp2_with fail
            refine wp_region_held_drew (S := (fun w' => w'.cell? ⟨w2.heap.size, 0, none⟩ = some (.int .i64 n) ∧ w'.cell? ⟨w.heap.size, 0, none⟩ = some (.pointer (some ⟨g, 0, none⟩)))) (by kernel_rfl) ⟨x10.1, x10.2.1⟩ (fun hHeld => ?_)
            (refine wpAnyH_take (i := 0) (v := ?_) (by (simp only [List.getElem?_toArray, List.getElem?_cons_zero]; rfl)) (by kernel_rfl) (by kernel_rfl) (by kernel_rfl) (by exact fun _ _ _ h => h) (Or.inl ⟨by rfl, ?_⟩) (by assumption) ?_; (rotate_left 1; (intro w hSw; (try dsimp only at hSw); go_simp); (try with_reducible rfl)); (try simp only [Act.put, List.setIfInBounds_toArray, List.set_cons_zero, List.set_cons_succ]))
            (refine wpAnyH_take (i := 1) (v := ?_) (by (simp only [List.getElem?_toArray, List.getElem?_cons_succ, List.getElem?_cons_zero]; rfl)) (by kernel_rfl) (by kernel_rfl) (by kernel_rfl) (by exact fun _ _ _ h => h) (Or.inl ⟨by rfl, ?_⟩) (by assumption) ?_; (rotate_left 1; (intro w hSw; (try dsimp only at hSw); go_simp); (try with_reducible rfl)); (try simp only [Act.put, List.setIfInBounds_toArray, List.set_cons_zero, List.set_cons_succ]))
            (refine wpAnyH_take (i := 2) (v := ?_) (by (simp only [List.getElem?_toArray, List.getElem?_cons_succ, List.getElem?_cons_zero]; rfl)) (by kernel_rfl) (by kernel_rfl) (by kernel_rfl) (by exact fun _ _ _ h => h) (Or.inl ⟨by rfl, ?_⟩) (by assumption) ?_; (rotate_left 1; (intro w hSw; (try dsimp only at hSw); go_simp); (try with_reducible rfl)); (try simp only [Act.put, List.setIfInBounds_toArray, List.set_cons_zero, List.set_cons_succ]))
            (refine wpAnyH_take (i := 4) (v := ?_) (by (simp only [List.getElem?_toArray, List.getElem?_cons_succ, List.getElem?_cons_zero]; rfl)) (by kernel_rfl) (by kernel_rfl) (by kernel_rfl) (by exact fun _ _ _ h => h) (Or.inl ⟨by rfl, ?_⟩) (by assumption) ?_; (rotate_left 1; (intro w hSw; (try dsimp only at hSw); go_simp); (try with_reducible rfl)); (try simp only [Act.put, List.setIfInBounds_toArray, List.set_cons_zero, List.set_cons_succ]))
            (refine wpAnyH_take (i := 5) (v := ?_) (by (simp only [List.getElem?_toArray, List.getElem?_cons_succ, List.getElem?_cons_zero]; rfl)) (by kernel_rfl) (by kernel_rfl) (by kernel_rfl) (by exact fun _ _ _ h => h) (Or.inl ⟨by rfl, ?_⟩) (by assumption) ?_; (rotate_left 1; (intro w hSw; (try dsimp only at hSw); go_simp); (try with_reducible rfl)); (try simp only [Act.put, List.setIfInBounds_toArray, List.set_cons_zero, List.set_cons_succ]))
            (refine wpAnyH_take (i := 6) (v := ?_) (by (simp only [List.getElem?_toArray, List.getElem?_cons_succ, List.getElem?_cons_zero]; rfl)) (by kernel_rfl) (by kernel_rfl) (by kernel_rfl) (by exact fun _ _ _ h => h) (Or.inl ⟨by rfl, ?_⟩) (by assumption) ?_; (rotate_left 1; (intro w hSw; (try dsimp only at hSw); go_simp); (try with_reducible rfl)); (try simp only [Act.put, List.setIfInBounds_toArray, List.set_cons_zero, List.set_cons_succ]))
            (refine wpAnyH_take (i := 7) (v := ?_) (by (simp only [List.getElem?_toArray, List.getElem?_cons_succ, List.getElem?_cons_zero]; rfl)) (by kernel_rfl) (by kernel_rfl) (by kernel_rfl) (by exact fun _ _ _ h => h) (Or.inl ⟨by rfl, ?_⟩) (by assumption) ?_; (rotate_left 1; (intro w hSw; (try dsimp only at hSw); go_simp); (try with_reducible rfl)); (try simp only [Act.put, List.setIfInBounds_toArray, List.set_cons_zero, List.set_cons_succ]))
            (refine wpAnyH_take (i := 9) (v := ?_) (by (simp only [List.getElem?_toArray, List.getElem?_cons_succ, List.getElem?_cons_zero]; rfl)) (by kernel_rfl) (by kernel_rfl) (by kernel_rfl) (by exact fun _ _ _ h => h) (Or.inl ⟨by rfl, ?_⟩) (by assumption) ?_; (rotate_left 1; (intro w hSw; (try dsimp only at hSw); go_simp); (try with_reducible rfl)); (try simp only [Act.put, List.setIfInBounds_toArray, List.set_cons_zero, List.set_cons_succ]))
            (refine wpAnyH_take (i := 10) (v := ?_) (by (simp only [List.getElem?_toArray, List.getElem?_cons_succ, List.getElem?_cons_zero]; rfl)) (by kernel_rfl) (by kernel_rfl) (by kernel_rfl) (by exact fun _ _ _ h => h) (Or.inl ⟨by rfl, ?_⟩) (by assumption) ?_; (rotate_left 1; (intro w hSw; (try dsimp only at hSw); go_simp); (try with_reducible rfl)); (try simp only [Act.put, List.setIfInBounds_toArray, List.set_cons_zero, List.set_cons_succ]))
            refine wpAnyH_ready (rs := [3, 8]) (by kernel_rfl) (by simp) ?_
            refine AllReadyH.cons rfl (fun K hK => ?_) (AllReadyH.cons rfl (fun K hK => ?_) AllReadyH.nil)
            case refine_1 =>
              go_simp
              go_at_call 25
              refine (odd_any g (N + 2 + 3 * k + 1 + 1 + 1) _ _ _ (by repeat (first | exact h10.str | refine Str.alloc ?_ _ | refine Str.drewN ?_ _ | refine Str.drew ?_)) (by omega) (by omega) (by omega) (by omega)).mono ?_
              rintro e w11 ⟨r5, rfl, h51, h52, hs11, hg11⟩
              have hgk : w10.grownBy w11 (some g) := grown_trans' (by repeat (first | exact World.grownBy.refl _ _ | refine grown_alloc ?_ _ | refine grown_drewN ?_ _ | refine grown_drew ?_)) hg11
              have x11 := (HKX.out _ hgk)
              have z11 := hs11.lt
              go_wp2_with fail
              refine hK.out _ _ (⟨x11.1, x11.2.1⟩) (fun _ => ?_)
              clear hK K
              (try simp only [Act.put, List.setIfInBounds_toArray, List.set_cons_zero, List.set_cons_succ])
              refine wpAnyH_ready (rs := [8]) (by kernel_rfl) (by simp) ?_
              refine AllReadyH.cons rfl (fun K hK => ?_) AllReadyH.nil
              have xc : w11.cell? ⟨gb, j * 2, none⟩ = some (.int .i64 ll[j].1) := x11.2.2
              go_simp
              refine hK.out _ _ (⟨x11.1, x11.2.1⟩) (fun _ => ?_)
              clear hK K
              (try simp only [Act.put, List.setIfInBounds_toArray, List.set_cons_zero, List.set_cons_succ])
              refine wpAnyH_ready (rs := [11]) (by kernel_rfl) (by simp) ?_
              refine AllReadyH.cons rfl (fun K hK => ?_) AllReadyH.nil
              go_simp
              refine hK.out _ _ (⟨(HKX.out _ (by repeat (first | exact hgk | refine grown_alloc ?_ _ | refine grown_drewN ?_ _ | refine grown_drew ?_))).1, (HKX.out _ (by repeat (first | exact hgk | refine grown_alloc ?_ _ | refine grown_drewN ?_ _ | refine grown_drew ?_))).2.1⟩) (fun _ => ?_)
              clear hK K
              (try simp only [Act.put, List.setIfInBounds_toArray, List.set_cons_zero, List.set_cons_succ])
              refine wpAnyH_ready (rs := [12]) (by kernel_rfl) (by simp) ?_
              refine AllReadyH.cons rfl (fun K hK => ?_) AllReadyH.nil
              go_simp
              go_at_call 19
              refine (pick_any g (N + 2 + 3 * k + 1 + 1 + 1 + 2) (g + 1) _ _ [ll[j].1, 0, n + 1, -1] _ (by repeat (first | exact hs11 | refine Str.alloc ?_ _ | refine Str.drewN ?_ _ | refine Str.drew ?_)) (by omega) (by first | exact row_new' _ (by first | rfl | simp) (by first | omega | (simp; omega)) rfl | exact row_newN _ _ (by first | rfl | simp) (by first | omega | (simp; omega)) rfl | exact row_newD _ (by first | rfl | simp) (by first | omega | (simp; omega)) rfl) (by omega) (by simp) (by simp)).mono ?_
              rintro e w12 ⟨r6, rfl, -, hs12, hg12⟩
              have hgl : w10.grownBy w12 (some g) := grown_trans' (by repeat (first | exact hgk | refine grown_alloc ?_ _ | refine grown_drewN ?_ _ | refine grown_drew ?_)) hg12
              have x12 := HKX.out _ hgl
              go_wp2_with fail
              refine hK.out _ _ (⟨x12.1, x12.2.1⟩) (fun _ => ?_)
              clear hK K
              (try simp only [Act.put, List.setIfInBounds_toArray, List.set_cons_zero, List.set_cons_succ])
              have own12 := own_grown h10.own hgl (by omega)
              obtain ⟨gb2, hA2, _, _, hcb2, hfb2⟩ := ownBlk own12 hl4
              injection hA2 with hA2
              injection hA2 with hA2
              subst hA2
              have d1 := hcb2 _ _ (prs_at ll j hj).1
              have d2 := hcb2 _ _ (prs_at ll j hj).2
              have f1 := hfb2 (j * 2)
              have f2 := hfb2 (j * 2 + 1)
              have k7 := h10.b7.grown hgl (by omega)
              have k5' := h10.b5.grown hgl (by omega)
              have k2' := h10.b2.grown hgl (by omega)
              clear hcb2 hfb2
              (refine wpAnyH_take (i := 13) (v := ?_) (by (simp only [List.getElem?_toArray, List.getElem?_cons_succ, List.getElem?_cons_zero]; rfl)) (by kernel_rfl) (by kernel_rfl) (by kernel_rfl) (by exact fun _ _ _ h => h) (Or.inl ⟨by rfl, ?_⟩) (by assumption) ?_; (rotate_left 1; (intro w hSw; (try dsimp only at hSw); go_simp); (try with_reducible rfl)); (try simp only [Act.put, List.setIfInBounds_toArray, List.set_cons_zero, List.set_cons_succ]))
              (refine wpAnyH_take (i := 14) (v := ?_) (by (simp only [List.getElem?_toArray, List.getElem?_cons_succ, List.getElem?_cons_zero]; rfl)) (by kernel_rfl) (by kernel_rfl) (by kernel_rfl) (by exact fun _ _ _ h => h) (Or.inl ⟨by rfl, ?_⟩) (by assumption) ?_; (rotate_left 1; (intro w hSw; (try dsimp only at hSw); go_simp); (try with_reducible rfl)); (try simp only [Act.put, List.setIfInBounds_toArray, List.set_cons_zero, List.set_cons_succ]))
              refine wpAnyH_ready (rs := [15]) (by kernel_rfl) (by simp) ?_
              refine AllReadyH.cons rfl (fun K hK => ?_) AllReadyH.nil
              go_simp
              refine hK.out _ _ (⟨(k5'.setO (p := ⟨gb, j * 2 + 1, none⟩) N5.out _).cell 0, (k2'.setO (p := ⟨gb, j * 2 + 1, none⟩) N2.out _).cell 0⟩) (fun _ => ?_)
              clear hK K
              (try simp only [Act.put, List.setIfInBounds_toArray, List.set_cons_zero, List.set_cons_succ])
              (refine wpAnyH_take (i := 16) (v := ?_) (by (simp only [List.getElem?_toArray, List.getElem?_cons_succ, List.getElem?_cons_zero]; rfl)) (by kernel_rfl) (by kernel_rfl) (by kernel_rfl) (by exact fun _ _ _ h => h) (Or.inl ⟨by rfl, ?_⟩) (by assumption) ?_; (rotate_left 1; (intro w hSw; (try dsimp only at hSw); go_simp); (try with_reducible rfl)); (try simp only [Act.put, List.setIfInBounds_toArray, List.set_cons_zero, List.set_cons_succ]))
              (refine wpAnyH_take (i := 17) (v := ?_) (by (simp only [List.getElem?_toArray, List.getElem?_cons_succ, List.getElem?_cons_zero]; rfl)) (by kernel_rfl) (by kernel_rfl) (by kernel_rfl) (by exact fun _ _ _ h => h) (Or.inl ⟨by rfl, ?_⟩) (by assumption) ?_; (rotate_left 1; (intro w hSw; (try dsimp only at hSw); go_simp); (try with_reducible rfl)); (try simp only [Act.put, List.setIfInBounds_toArray, List.set_cons_zero, List.set_cons_succ]))
              refine wpAnyH_ready (rs := [18]) (by kernel_rfl) (by simp) ?_
              refine AllReadyH.cons rfl (fun K hK => ?_) AllReadyH.nil
              go_simp
              refine hK.out _ _ (⟨((k5'.setO (p := ⟨gb, j * 2 + 1, none⟩) N5.out _).setO (p := ⟨gb, j * 2, none⟩) N5.out _).cell 0, ((k2'.setO (p := ⟨gb, j * 2 + 1, none⟩) N2.out _).setO (p := ⟨gb, j * 2, none⟩) N2.out _).cell 0⟩) (fun _ => ?_)
              clear hK K
              (try simp only [Act.put, List.setIfInBounds_toArray, List.set_cons_zero, List.set_cons_succ])
              refine wpAnyH_done (by kernel_rfl) ?_ _
              have k7f := (k7.setO (p := ⟨gb, j * 2 + 1, none⟩) N7.out (.int .i64 r5)).setO (p := ⟨gb, j * 2, none⟩) N7.out (.int .i64 r6)
              have k7c : ((w12.setCell ⟨gb, j * 2 + 1, none⟩ (.int .i64 r5)).setCell ⟨gb, j * 2, none⟩ (.int .i64 r6)).cell? ⟨p7, 0, none⟩ = some (.slice (some ⟨gb, 0, none⟩) ll.length c8) := k7f.cell 0
              have of : ((w12.setCell ⟨gb, j * 2 + 1, none⟩ (.int .i64 r5)).setCell ⟨gb, j * 2, none⟩ (.int .i64 r6)).ownsRow w.heap.size 45 2 (.slice (some ⟨gb, 0, none⟩) ll.length c8) ll.length (prs (ll.set j (r6, r5))) := own_prs_set2' own12 j hj r6 r5
              have gf : w.grownBy ((w12.setCell ⟨gb, j * 2 + 1, none⟩ (.int .i64 r5)).setCell ⟨gb, j * 2, none⟩ (.int .i64 r6)) (some g) := grown_set_new (grown_set_new (grown_trans' h10.gr hgl) (by simp; omega) _) (by simp; omega) _
              have sf := ((hs12.set (p := ⟨gb, j * 2 + 1, none⟩) (by simp; omega) (.int .i64 r5)).set (p := ⟨gb, j * 2, none⟩) (by simp; omega) (.int .i64 r6))
              generalize (w12.setCell ⟨gb, j * 2 + 1, none⟩ (.int .i64 r5)).setCell ⟨gb, j * 2, none⟩ (.int .i64 r6) = wf at *
              clear d1 d2 f1 f2 k7 k5' k2' own12 k7f x12 x11 wn
              go_wp2_with fail
              refine bodyPost_ret (results_tmp rfl _ _ _) rfl ?_
              exact ⟨some ⟨gb, 0, none⟩, c8, ll.set j (r6, r5), by simp, by simpa using of, by simp; omega, sf.more (by omega), gf⟩
            case refine_2 =>
              go_simp
              refine hK.out _ _ (⟨x10.1, x10.2.1⟩) (fun _ => ?_)
              clear hK K
              (try simp only [Act.put, List.setIfInBounds_toArray, List.set_cons_zero, List.set_cons_succ])
              refine wpAnyH_ready (rs := [3, 11]) (by kernel_rfl) (by simp) ?_
              refine AllReadyH.cons rfl (fun K hK => ?_) (AllReadyH.cons rfl (fun K hK => ?_) AllReadyH.nil)
              case refine_1 =>
                go_simp
                go_at_call 25
                refine (odd_any g (N + 2 + 3 * k + 1 + 1 + 1) _ _ _ (by repeat (first | exact h10.str | refine Str.alloc ?_ _ | refine Str.drewN ?_ _ | refine Str.drew ?_)) (by omega) (by omega) (by omega) (by omega)).mono ?_
                rintro e w11 ⟨r5, rfl, h51, h52, hs11, hg11⟩
                have hgk : w10.grownBy w11 (some g) := grown_trans' (by repeat (first | exact World.grownBy.refl _ _ | refine grown_alloc ?_ _ | refine grown_drewN ?_ _ | refine grown_drew ?_)) hg11
                have x11 := (HKX.out _ hgk)
                have z11 := hs11.lt
                go_wp2_with fail
                refine hK.out _ _ (⟨x11.1, x11.2.1⟩) (fun _ => ?_)
                clear hK K
                (try simp only [Act.put, List.setIfInBounds_toArray, List.set_cons_zero, List.set_cons_succ])
                refine wpAnyH_ready (rs := [11]) (by kernel_rfl) (by simp) ?_
                refine AllReadyH.cons rfl (fun K hK => ?_) AllReadyH.nil
                go_simp
                refine hK.out _ _ (⟨(HKX.out _ (by repeat (first | exact hgk | refine grown_alloc ?_ _ | refine grown_drewN ?_ _ | refine grown_drew ?_))).1, (HKX.out _ (by repeat (first | exact hgk | refine grown_alloc ?_ _ | refine grown_drewN ?_ _ | refine grown_drew ?_))).2.1⟩) (fun _ => ?_)
                clear hK K
                (try simp only [Act.put, List.setIfInBounds_toArray, List.set_cons_zero, List.set_cons_succ])
                refine wpAnyH_ready (rs := [12]) (by kernel_rfl) (by simp) ?_
                refine AllReadyH.cons rfl (fun K hK => ?_) AllReadyH.nil
                go_simp
                go_at_call 19
                refine (pick_any g (N + 2 + 3 * k + 1 + 1 + 1 + 2) (g + 1) _ _ [ll[j].1, 0, n + 1, -1] _ (by repeat (first | exact hs11 | refine Str.alloc ?_ _ | refine Str.drewN ?_ _ | refine Str.drew ?_)) (by omega) (by first | exact row_new' _ (by first | rfl | simp) (by first | omega | (simp; omega)) rfl | exact row_newN _ _ (by first | rfl | simp) (by first | omega | (simp; omega)) rfl | exact row_newD _ (by first | rfl | simp) (by first | omega | (simp; omega)) rfl) (by omega) (by simp) (by simp)).mono ?_
                rintro e w12 ⟨r6, rfl, -, hs12, hg12⟩
                have hgl : w10.grownBy w12 (some g) := grown_trans' (by repeat (first | exact hgk | refine grown_alloc ?_ _ | refine grown_drewN ?_ _ | refine grown_drew ?_)) hg12
                have x12 := HKX.out _ hgl
                go_wp2_with fail
                refine hK.out _ _ (⟨x12.1, x12.2.1⟩) (fun _ => ?_)
                clear hK K
                (try simp only [Act.put, List.setIfInBounds_toArray, List.set_cons_zero, List.set_cons_succ])
                have own12 := own_grown h10.own hgl (by omega)
                obtain ⟨gb2, hA2, _, _, hcb2, hfb2⟩ := ownBlk own12 hl4
                injection hA2 with hA2
                injection hA2 with hA2
                subst hA2
                have d1 := hcb2 _ _ (prs_at ll j hj).1
                have d2 := hcb2 _ _ (prs_at ll j hj).2
                have f1 := hfb2 (j * 2)
                have f2 := hfb2 (j * 2 + 1)
                have k7 := h10.b7.grown hgl (by omega)
                have k5' := h10.b5.grown hgl (by omega)
                have k2' := h10.b2.grown hgl (by omega)
                clear hcb2 hfb2
                (refine wpAnyH_take (i := 13) (v := ?_) (by (simp only [List.getElem?_toArray, List.getElem?_cons_succ, List.getElem?_cons_zero]; rfl)) (by kernel_rfl) (by kernel_rfl) (by kernel_rfl) (by exact fun _ _ _ h => h) (Or.inl ⟨by rfl, ?_⟩) (by assumption) ?_; (rotate_left 1; (intro w hSw; (try dsimp only at hSw); go_simp); (try with_reducible rfl)); (try simp only [Act.put, List.setIfInBounds_toArray, List.set_cons_zero, List.set_cons_succ]))
                (refine wpAnyH_take (i := 14) (v := ?_) (by (simp only [List.getElem?_toArray, List.getElem?_cons_succ, List.getElem?_cons_zero]; rfl)) (by kernel_rfl) (by kernel_rfl) (by kernel_rfl) (by exact fun _ _ _ h => h) (Or.inl ⟨by rfl, ?_⟩) (by assumption) ?_; (rotate_left 1; (intro w hSw; (try dsimp only at hSw); go_simp); (try with_reducible rfl)); (try simp only [Act.put, List.setIfInBounds_toArray, List.set_cons_zero, List.set_cons_succ]))
                refine wpAnyH_ready (rs := [15]) (by kernel_rfl) (by simp) ?_
                refine AllReadyH.cons rfl (fun K hK => ?_) AllReadyH.nil
                go_simp
                refine hK.out _ _ (⟨(k5'.setO (p := ⟨gb, j * 2 + 1, none⟩) N5.out _).cell 0, (k2'.setO (p := ⟨gb, j * 2 + 1, none⟩) N2.out _).cell 0⟩) (fun _ => ?_)
                clear hK K
                (try simp only [Act.put, List.setIfInBounds_toArray, List.set_cons_zero, List.set_cons_succ])
                (refine wpAnyH_take (i := 16) (v := ?_) (by (simp only [List.getElem?_toArray, List.getElem?_cons_succ, List.getElem?_cons_zero]; rfl)) (by kernel_rfl) (by kernel_rfl) (by kernel_rfl) (by exact fun _ _ _ h => h) (Or.inl ⟨by rfl, ?_⟩) (by assumption) ?_; (rotate_left 1; (intro w hSw; (try dsimp only at hSw); go_simp); (try with_reducible rfl)); (try simp only [Act.put, List.setIfInBounds_toArray, List.set_cons_zero, List.set_cons_succ]))
                (refine wpAnyH_take (i := 17) (v := ?_) (by (simp only [List.getElem?_toArray, List.getElem?_cons_succ, List.getElem?_cons_zero]; rfl)) (by kernel_rfl) (by kernel_rfl) (by kernel_rfl) (by exact fun _ _ _ h => h) (Or.inl ⟨by rfl, ?_⟩) (by assumption) ?_; (rotate_left 1; (intro w hSw; (try dsimp only at hSw); go_simp); (try with_reducible rfl)); (try simp only [Act.put, List.setIfInBounds_toArray, List.set_cons_zero, List.set_cons_succ]))
                refine wpAnyH_ready (rs := [18]) (by kernel_rfl) (by simp) ?_
                refine AllReadyH.cons rfl (fun K hK => ?_) AllReadyH.nil
                go_simp
                refine hK.out _ _ (⟨((k5'.setO (p := ⟨gb, j * 2 + 1, none⟩) N5.out _).setO (p := ⟨gb, j * 2, none⟩) N5.out _).cell 0, ((k2'.setO (p := ⟨gb, j * 2 + 1, none⟩) N2.out _).setO (p := ⟨gb, j * 2, none⟩) N2.out _).cell 0⟩) (fun _ => ?_)
                clear hK K
                (try simp only [Act.put, List.setIfInBounds_toArray, List.set_cons_zero, List.set_cons_succ])
                refine wpAnyH_done (by kernel_rfl) ?_ _
                have k7f := (k7.setO (p := ⟨gb, j * 2 + 1, none⟩) N7.out (.int .i64 r5)).setO (p := ⟨gb, j * 2, none⟩) N7.out (.int .i64 r6)
                have k7c : ((w12.setCell ⟨gb, j * 2 + 1, none⟩ (.int .i64 r5)).setCell ⟨gb, j * 2, none⟩ (.int .i64 r6)).cell? ⟨p7, 0, none⟩ = some (.slice (some ⟨gb, 0, none⟩) ll.length c8) := k7f.cell 0
                have of : ((w12.setCell ⟨gb, j * 2 + 1, none⟩ (.int .i64 r5)).setCell ⟨gb, j * 2, none⟩ (.int .i64 r6)).ownsRow w.heap.size 45 2 (.slice (some ⟨gb, 0, none⟩) ll.length c8) ll.length (prs (ll.set j (r6, r5))) := own_prs_set2' own12 j hj r6 r5
                have gf : w.grownBy ((w12.setCell ⟨gb, j * 2 + 1, none⟩ (.int .i64 r5)).setCell ⟨gb, j * 2, none⟩ (.int .i64 r6)) (some g) := grown_set_new (grown_set_new (grown_trans' h10.gr hgl) (by simp; omega) _) (by simp; omega) _
                have sf := ((hs12.set (p := ⟨gb, j * 2 + 1, none⟩) (by simp; omega) (.int .i64 r5)).set (p := ⟨gb, j * 2, none⟩) (by simp; omega) (.int .i64 r6))
                generalize (w12.setCell ⟨gb, j * 2 + 1, none⟩ (.int .i64 r5)).setCell ⟨gb, j * 2, none⟩ (.int .i64 r6) = wf at *
                clear d1 d2 f1 f2 k7 k5' k2' own12 k7f x12 x11 wn
                go_wp2_with fail
                refine bodyPost_ret (results_tmp rfl _ _ _) rfl ?_
                exact ⟨some ⟨gb, 0, none⟩, c8, ll.set j (r6, r5), by simp, by simpa using of, by simp; omega, sf.more (by omega), gf⟩
              case refine_2 =>
                go_simp
                refine hK.out _ _ (⟨(HKX.out _ (by repeat (first | exact World.grownBy.refl _ _ | refine grown_alloc ?_ _ | refine grown_drewN ?_ _ | refine grown_drew ?_))).1, (HKX.out _ (by repeat (first | exact World.grownBy.refl _ _ | refine grown_alloc ?_ _ | refine grown_drewN ?_ _ | refine grown_drew ?_))).2.1⟩) (fun _ => ?_)
                clear hK K
                (try simp only [Act.put, List.setIfInBounds_toArray, List.set_cons_zero, List.set_cons_succ])
                refine wpAnyH_ready (rs := [3]) (by kernel_rfl) (by simp) ?_
                refine AllReadyH.cons rfl (fun K hK => ?_) AllReadyH.nil
                go_simp
                go_at_call 25
                refine (odd_any g (N + 2 + 3 * k + 1 + 1 + 1) _ _ _ (by repeat (first | exact h10.str | refine Str.alloc ?_ _ | refine Str.drewN ?_ _ | refine Str.drew ?_)) (by omega) (by omega) (by omega) (by omega)).mono ?_
                rintro e w11 ⟨r5, rfl, h51, h52, hs11, hg11⟩
                have hgk : w10.grownBy w11 (some g) := grown_trans' (by repeat (first | exact World.grownBy.refl _ _ | refine grown_alloc ?_ _ | refine grown_drewN ?_ _ | refine grown_drew ?_)) hg11
                have x11 := (HKX.out _ hgk)
                have z11 := hs11.lt
                go_wp2_with fail
                refine hK.out _ _ (⟨x11.1, x11.2.1⟩) (fun _ => ?_)
                clear hK K
                (try simp only [Act.put, List.setIfInBounds_toArray, List.set_cons_zero, List.set_cons_succ])
                refine wpAnyH_ready (rs := [12]) (by kernel_rfl) (by simp) ?_
                refine AllReadyH.cons rfl (fun K hK => ?_) AllReadyH.nil
                go_simp
                go_at_call 19
                refine (pick_any g (N + 2 + 3 * k + 1 + 1 + 1 + 2) (g + 1) _ _ [ll[j].1, 0, n + 1, -1] _ (by repeat (first | exact hs11 | refine Str.alloc ?_ _ | refine Str.drewN ?_ _ | refine Str.drew ?_)) (by omega) (rn.grown hg11 (by omega)) (by omega) (by simp) (by simp)).mono ?_
                rintro e w12 ⟨r6, rfl, -, hs12, hg12⟩
                have hgl : w10.grownBy w12 (some g) := grown_trans' (by repeat (first | exact hgk | refine grown_alloc ?_ _ | refine grown_drewN ?_ _ | refine grown_drew ?_)) hg12
                have x12 := HKX.out _ hgl
                go_wp2_with fail
                refine hK.out _ _ (⟨x12.1, x12.2.1⟩) (fun _ => ?_)
                clear hK K
                (try simp only [Act.put, List.setIfInBounds_toArray, List.set_cons_zero, List.set_cons_succ])
                have own12 := own_grown h10.own hgl (by omega)
                obtain ⟨gb2, hA2, _, _, hcb2, hfb2⟩ := ownBlk own12 hl4
                injection hA2 with hA2
                injection hA2 with hA2
                subst hA2
                have d1 := hcb2 _ _ (prs_at ll j hj).1
                have d2 := hcb2 _ _ (prs_at ll j hj).2
                have f1 := hfb2 (j * 2)
                have f2 := hfb2 (j * 2 + 1)
                have k7 := h10.b7.grown hgl (by omega)
                have k5' := h10.b5.grown hgl (by omega)
                have k2' := h10.b2.grown hgl (by omega)
                clear hcb2 hfb2
                (refine wpAnyH_take (i := 13) (v := ?_) (by (simp only [List.getElem?_toArray, List.getElem?_cons_succ, List.getElem?_cons_zero]; rfl)) (by kernel_rfl) (by kernel_rfl) (by kernel_rfl) (by exact fun _ _ _ h => h) (Or.inl ⟨by rfl, ?_⟩) (by assumption) ?_; (rotate_left 1; (intro w hSw; (try dsimp only at hSw); go_simp); (try with_reducible rfl)); (try simp only [Act.put, List.setIfInBounds_toArray, List.set_cons_zero, List.set_cons_succ]))
                (refine wpAnyH_take (i := 14) (v := ?_) (by (simp only [List.getElem?_toArray, List.getElem?_cons_succ, List.getElem?_cons_zero]; rfl)) (by kernel_rfl) (by kernel_rfl) (by kernel_rfl) (by exact fun _ _ _ h => h) (Or.inl ⟨by rfl, ?_⟩) (by assumption) ?_; (rotate_left 1; (intro w hSw; (try dsimp only at hSw); go_simp); (try with_reducible rfl)); (try simp only [Act.put, List.setIfInBounds_toArray, List.set_cons_zero, List.set_cons_succ]))
                refine wpAnyH_ready (rs := [15]) (by kernel_rfl) (by simp) ?_
                refine AllReadyH.cons rfl (fun K hK => ?_) AllReadyH.nil
                go_simp
                refine hK.out _ _ (⟨(k5'.setO (p := ⟨gb, j * 2 + 1, none⟩) N5.out _).cell 0, (k2'.setO (p := ⟨gb, j * 2 + 1, none⟩) N2.out _).cell 0⟩) (fun _ => ?_)
                clear hK K
                (try simp only [Act.put, List.setIfInBounds_toArray, List.set_cons_zero, List.set_cons_succ])
                (refine wpAnyH_take (i := 16) (v := ?_) (by (simp only [List.getElem?_toArray, List.getElem?_cons_succ, List.getElem?_cons_zero]; rfl)) (by kernel_rfl) (by kernel_rfl) (by kernel_rfl) (by exact fun _ _ _ h => h) (Or.inl ⟨by rfl, ?_⟩) (by assumption) ?_; (rotate_left 1; (intro w hSw; (try dsimp only at hSw); go_simp); (try with_reducible rfl)); (try simp only [Act.put, List.setIfInBounds_toArray, List.set_cons_zero, List.set_cons_succ]))
                (refine wpAnyH_take (i := 17) (v := ?_) (by (simp only [List.getElem?_toArray, List.getElem?_cons_succ, List.getElem?_cons_zero]; rfl)) (by kernel_rfl) (by kernel_rfl) (by kernel_rfl) (by exact fun _ _ _ h => h) (Or.inl ⟨by rfl, ?_⟩) (by assumption) ?_; (rotate_left 1; (intro w hSw; (try dsimp only at hSw); go_simp); (try with_reducible rfl)); (try simp only [Act.put, List.setIfInBounds_toArray, List.set_cons_zero, List.set_cons_succ]))
                refine wpAnyH_ready (rs := [18]) (by kernel_rfl) (by simp) ?_
                refine AllReadyH.cons rfl (fun K hK => ?_) AllReadyH.nil
                go_simp
                refine hK.out _ _ (⟨((k5'.setO (p := ⟨gb, j * 2 + 1, none⟩) N5.out _).setO (p := ⟨gb, j * 2, none⟩) N5.out _).cell 0, ((k2'.setO (p := ⟨gb, j * 2 + 1, none⟩) N2.out _).setO (p := ⟨gb, j * 2, none⟩) N2.out _).cell 0⟩) (fun _ => ?_)
                clear hK K
                (try simp only [Act.put, List.setIfInBounds_toArray, List.set_cons_zero, List.set_cons_succ])
                refine wpAnyH_done (by kernel_rfl) ?_ _
                have k7f := (k7.setO (p := ⟨gb, j * 2 + 1, none⟩) N7.out (.int .i64 r5)).setO (p := ⟨gb, j * 2, none⟩) N7.out (.int .i64 r6)
                have k7c : ((w12.setCell ⟨gb, j * 2 + 1, none⟩ (.int .i64 r5)).setCell ⟨gb, j * 2, none⟩ (.int .i64 r6)).cell? ⟨p7, 0, none⟩ = some (.slice (some ⟨gb, 0, none⟩) ll.length c8) := k7f.cell 0
                have of : ((w12.setCell ⟨gb, j * 2 + 1, none⟩ (.int .i64 r5)).setCell ⟨gb, j * 2, none⟩ (.int .i64 r6)).ownsRow w.heap.size 45 2 (.slice (some ⟨gb, 0, none⟩) ll.length c8) ll.length (prs (ll.set j (r6, r5))) := own_prs_set2' own12 j hj r6 r5
                have gf : w.grownBy ((w12.setCell ⟨gb, j * 2 + 1, none⟩ (.int .i64 r5)).setCell ⟨gb, j * 2, none⟩ (.int .i64 r6)) (some g) := grown_set_new (grown_set_new (grown_trans' h10.gr hgl) (by simp; omega) _) (by simp; omega) _
                have sf := ((hs12.set (p := ⟨gb, j * 2 + 1, none⟩) (by simp; omega) (.int .i64 r5)).set (p := ⟨gb, j * 2, none⟩) (by simp; omega) (.int .i64 r6))
                generalize (w12.setCell ⟨gb, j * 2 + 1, none⟩ (.int .i64 r5)).setCell ⟨gb, j * 2, none⟩ (.int .i64 r6) = wf at *
                clear d1 d2 f1 f2 k7 k5' k2' own12 k7f x12 x11 wn
                go_wp2_with fail
                refine bodyPost_ret (results_tmp rfl _ _ _) rfl ?_
                exact ⟨some ⟨gb, 0, none⟩, c8, ll.set j (r6, r5), by simp, by simpa using of, by simp; omega, sf.more (by omega), gf⟩
  · have h0' : (vFault v != 0) = true := by simpa using h0
    clear h0
    go_wp2_with fail
    refine bodyPost_ret (results_tmp rfl _ _ _) rfl ?_
    exact ⟨none, 0, [], rfl, World.ownsRow_nil _ _ _ _, by simp, (hs.keep hx1).more (by omega), grown_of_below hx1 _⟩
end Go.Proofs.YtlinbaojkmcbeaaGreatDoor
