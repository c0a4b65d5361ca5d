/- Texts of this seat, laid together: Rs. -/
import Derived.Deep.DeepCutAuto
import Derived.Test.YtagghmfhfboejaaGreatDoorBu58
import Derived.Test.YtagghmfhfboejaaGreatDoorBu59
import Derived.Test.YtagghmfhfboejaaGreatDoorBu10
import Derived.Test.YtagghmfhfboejaaGreatDoorBu28
/- The walk of splitref1.SplitsFor at a right history. -/
namespace Go.Proofs.YtagghmfhfboejaaGreatDoor
set_option linter.unusedVariables false
set_option linter.unusedSimpArgs false
open Go.RowKit Go.Sort

attribute [local go_sem] Oper.semAt_some

theorem Blk.newAt (w : World) {t : TypeId} {cs : Array Value} {b : Nat} (hb : w.heap.size = b) : Blk (w.alloc (.cells cs t)) b t cs := by subst hb; exact Blk.new _ _ _
def RSplitsPost (w : World) (o : Option (List Int)) (e : Ending) (w' : World) : Prop :=
  ∃ A' c', e = .returned (.tuple #[.slice A' (optL o).length c', .bool o.isSome]) ∧ Row w' 0 1 A' (optL o).length (ints (optL o)) ∧ Below w.heap.size w w'
theorem boxed45 {w : World} {p q : Nat} {t t' : TypeId} {a b : Value} (hp : Blk w p t #[a]) (hq : Blk w q t' #[b]) (hne : p ≠ q) (u v : Value) : Boxed ((w.setCell ⟨p, 0, none⟩ u).setCell ⟨q, 0, none⟩ v) p t u ∧ Boxed ((w.setCell ⟨p, 0, none⟩ u).setCell ⟨q, 0, none⟩ v) q t' v := by
  have h1 : Blk ((w.setCell ⟨p, 0, none⟩ u).setCell ⟨q, 0, none⟩ v) p t #[u] := by simpa using (hp.poke 0 u).past q 0 v hne
  have h2 : Blk ((w.setCell ⟨p, 0, none⟩ u).setCell ⟨q, 0, none⟩ v) q t' #[v] := by simpa using (hq.past p 0 u (Ne.symm hne)).poke 0 v
  exact ⟨h1, h2⟩
theorem RSplitsPost.at_ {w W : World} {o : Option (List Int)} (h : o = none) (hb : Below w.heap.size w W) : RSplitsPost w o (.returned (.tuple #[.slice none 0 0, .bool false])) W := by
  subst h; exact ⟨none, 0, rfl, Row.none_ _ _ _ _, hb⟩
theorem RSplitsPost.at_row {w W : World} {o : Option (List Int)} {l : List Int} {A : Option Addr} {c lo : Nat} (h : o = some l) (hb : Below w.heap.size w W) (hr : Row w lo 1 A l.length (ints l)) : RSplitsPost w o (.returned (.tuple #[.slice A l.length c, .bool true])) W := by
  subst h; exact ⟨A, c, rfl, (hr.below hb).weak (Nat.zero_le _), hb⟩
theorem RSplitsPost.gen {w w4 : World} {o o' : Option (List Int)} {A : Option Addr} {c : Nat} {u4 u5 : Value} (h : o = o') (hb : Below w.heap.size w w4) (hr : Row w4 (w.heap.size + 3) 1 A (optL o').length (ints (optL o'))) :
    RSplitsPost w o (.returned (.tuple #[.slice A (optL o').length c, .bool o'.isSome])) ((w4.setCell ⟨w.heap.size + 1, 0, none⟩ u4).setCell ⟨w.heap.size + 1 + 1, 0, none⟩ u5) := by
  subst h
  exact ⟨A, c, rfl, ((hr.set_low _ 0 u4 (by omega)).set_low _ 0 u5 (by omega)).weak (Nat.zero_le _), Below.setCell (Below.setCell hb (by simp) _) (by simp; omega) _⟩
def oQ (rows : List (List Int)) (most : Int) (q : Nat) : Option (List Int) := if fullB rows = true then (evF rows most q).map fun p => addA (rows.map fun r => levA r p) else none
theorem oQ_zero (rows : List (List Int)) (most : Int) : oQ rows most 0 = none := by unfold oQ; split <;> rfl
theorem oQ_all (rows : List (List Int)) (most : Int) : oQ rows most 1001 = if fullB rows = true then evenO rows most else none := rfl
theorem oQ_yes {rows : List (List Int)} {most : Int} {q : Nat} (h0 : fullB rows = true) (h : (rows.map fun r => levA r q).sum ≤ most) : oQ rows most (q + 1) = some (addA (rows.map fun r => levA r q)) := by unfold oQ; rw [if_pos h0, evF_yes h]; rfl
theorem oQ_no {rows : List (List Int)} {most : Int} {q : Nat} (h : ¬ (rows.map fun r => levA r q).sum ≤ most) : oQ rows most (q + 1) = oQ rows most q := by unfold oQ; rw [evF_no h]
theorem oQ_not {rows : List (List Int)} {most : Int} (h0 : ¬ fullB rows = true) (q : Nat) : oQ rows most q = none := by unfold oQ; rw [if_neg h0]
def boxOf (p : Value) (w : World) : Int := match p with | .pointer (some a) => (match w.cell? a with | some (.int _ z) => z | _ => 0) | _ => 0
theorem boxOf_is {w : World} {pp : Nat} {q : Int} {t : TypeId} (h : Blk w pp t #[.int .i64 q]) : boxOf (.pointer (some ⟨pp, 0, none⟩)) w = q := by
  have := h.cell 0
  simp only [List.getElem?_toArray, List.getElem?_cons_zero] at this
  show (match w.cell? ⟨pp, 0, none⟩ with | some (.int _ z) => z | _ => 0) = q
  rw [this]
theorem Row.set_high {w : World} {lo size : Nat} {A : Option Addr} {n : Nat} {xs : List Value} (h : Row w lo size A n xs) {g : Nat} (hA : ∀ a, A = some a → a.block < g) (i : Nat) (u : Value) : Row (w.setCell ⟨g, i, none⟩ u) lo size A n xs := by
  refine ⟨h.1, fun hn => ?_⟩
  obtain ⟨b, off, e, hl, hb, hc⟩ := h.2 hn
  have := hA _ e
  refine ⟨b, off, e, hl, by simpa using hb, fun i' v hv => ?_⟩
  rw [World.cell?_of_block (Below.heap_setCell w ⟨g, i, none⟩ u b (by simp at this ⊢; omega))]
  exact hc i' v hv
theorem cells45 {w : World} {p q : Nat} {t t' : TypeId} {a b : Value} (hp : Blk w p t #[a]) (hq : Blk w q t' #[b]) (hne : p ≠ q) (u v : Value) : ((w.setCell ⟨p, 0, none⟩ u).setCell ⟨q, 0, none⟩ v).cell? ⟨p, 0, none⟩ = some u ∧ ((w.setCell ⟨p, 0, none⟩ u).setCell ⟨q, 0, none⟩ v).cell? ⟨q, 0, none⟩ = some v :=
  ⟨by simpa using ((hp.poke 0 u).past q 0 v hne).cell 0, by simpa using ((hq.past p 0 u (Ne.symm hne)).poke 0 v).cell 0⟩
theorem RSplitsPost.own {w w4 : World} {o o' : Option (List Int)} {A : Option Addr} {c base : Nat} {u4 u5 : Value} (h : o = o') (hb : Below w.heap.size w w4) (ho : w4.ownsRow base 3 1 (.slice A (optL o').length c) (optL o').length (ints (optL o'))) (hz : w.heap.size + 3 ≤ base) :
    RSplitsPost w o (.returned (.tuple #[.slice A (optL o').length c, .bool o'.isSome])) ((w4.setCell ⟨w.heap.size + 1, 0, none⟩ u4).setCell ⟨w.heap.size + 1 + 1, 0, none⟩ u5) := by
  subst h
  exact ⟨A, c, rfl, (Row.of_own (own_low (own_low ho (by omega) _ _) (by omega) _ _)).weak (Nat.zero_le _), Below.setCell (Below.setCell hb (by simp) _) (by simp; omega) _⟩
theorem RSplitsPost.none_ {w w4 : World} {o : Option (List Int)} {u4 u5 : Value} (h : o = none) (hb : Below w.heap.size w w4) :
    RSplitsPost w o (.returned (.tuple #[.slice none 0 0, .bool false])) ((w4.setCell ⟨w.heap.size + 1, 0, none⟩ u4).setCell ⟨w.heap.size + 1 + 1, 0, none⟩ u5) := by
  subst h
  exact ⟨none, 0, rfl, Row.none_ _ _ _ _, Below.setCell (Below.setCell hb (by simp) _) (by simp; omega) _⟩
theorem RSplitsPost.row {w w4 : World} {o : Option (List Int)} {l : List Int} {A : Option Addr} {c lo : Nat} {u4 u5 : Value} (h : o = some l) (hb : Below w.heap.size w w4) (hr : Row w lo 1 A l.length (ints l)) :
    RSplitsPost w o (.returned (.tuple #[.slice A l.length c, .bool true])) ((w4.setCell ⟨w.heap.size + 1, 0, none⟩ u4).setCell ⟨w.heap.size + 1 + 1, 0, none⟩ u5) := by
  subst h
  have hB : Below w.heap.size w ((w4.setCell ⟨w.heap.size + 1, 0, none⟩ u4).setCell ⟨w.heap.size + 1 + 1, 0, none⟩ u5) := Below.setCell (Below.setCell hb (by simp) _) (by simp; omega) _
  exact ⟨A, c, rfl, (hr.below hB).weak (Nat.zero_le _), hB⟩
set_option maxHeartbeats 8000000 in
set_option maxRecDepth 100000 in
theorem splitsFor_ok (SA TA : Option Addr) (c d lo : Nat) (how : Int) (segs : List (List UInt8)) (atts : List Att) (w : World) (hh : Hist w lo SA TA segs atts) (hok : HistOk segs atts) :
    Calls Tryz.prog 39 #[.agg #[.slice SA segs.length c, .slice TA atts.length d], .int .i64 how] w (RSplitsPost w (cmpO segs.length atts how)) := by
  have HO := Lib.hid hok
  have n1 := hok.n1
  have n2 := hok.n2
  have hm := hok.m
  have HROK := Lib.hid (rowsQ_ok hok segs.length)
  have HRL := Lib.hid (rowsQ_len atts segs.length)
  have H1 := Lib.hid (cmpO_1 segs.length atts)
  have H2 := Lib.hid (cmpO_2 segs.length atts)
  have H3 := Lib.hid (cmpO_3 segs.length atts)
  have H4 := Lib.hid (cmpO_4 segs.length atts)
  have H5 := Lib.hid (cmpO_5 segs.length atts)
  have H6 := Lib.hid (fun (how : Int) => cmpO_6 (n := segs.length) (atts := atts) (how := how))
  clear hok
  refine calls_of_wp_M Tryz.func39 rfl ?_
  simp only [Tryz.ntmps39, List.size_toArray, List.length_cons, List.length_nil, Nat.reduceAdd, Nat.reduceSub, Array.replicate_succ, Array.replicate_zero, List.push_toArray, List.append_toArray, List.nil_append, List.cons_append]
  go_wp2_with fail
  have hS0 : SFw w (((((w.alloc (.cells #[.slice SA segs.length c, .slice TA atts.length d] 29)).alloc (.cells #[.slice none 0 0] 22)).alloc (.cells #[.bool false] 4)).alloc (.cells #[.slice none 0 0] 94)).alloc (.cells #[.bool true] 4)) SA TA segs.length c atts.length d none 0 (rowsQ atts 0) [] :=
    ⟨((((Blk.newAt _ rfl).alloc _).alloc _).alloc _).alloc _, (((Blk.newAt _ (by simp)).alloc _).alloc _).alloc _, ((Blk.newAt _ (by simp)).alloc _).alloc _, (Blk.newAt _ (by simp)).alloc _, Blk.newAt _ (by simp), World.ownsRow_nil _ _ _ _, fun i h => absurd h (Nat.not_lt_zero _), (by repeat (first | exact Below.refl _ _ | refine Below.alloc ?_ (by first | omega | (simp; omega) | simp) _ | refine below_drewN' ?_ _ | refine Below.drew ?_))⟩
  generalize ((((w.alloc (.cells #[.slice SA segs.length c, .slice TA atts.length d] 29)).alloc (.cells #[.slice none 0 0] 22)).alloc (.cells #[.bool false] 4)).alloc (.cells #[.slice none 0 0] 94)).alloc (.cells #[.bool true] 4) = W at *
  go_loopw [22] (fun i wr => ∃ (k : Nat) (A : Option Addr) (cc : Nat) (cells : List Value), k ≤ segs.length ∧ i = .int .i64 k ∧ SFw w wr SA TA segs.length c atts.length d A cc (rowsQ atts k) cells) (fun i _ => segs.length - (intOf i).toNat)
  case atStart => exact ⟨0, none, 0, [], Nat.zero_le _, rfl, hS0⟩
  case round =>
    clear hS0
    obtain ⟨k, A, cc, cells, hk, rfl, hS⟩ := hrel
    have hzS := hS.size
    by_cases hlt : k < segs.length
    · have hrl : (rowsQ atts k).length ≤ 60 := by rw [rowsQ_len]; omega
      have HQS := Lib.hid (rowsQ_snoc atts k)
      have HRK : Hid ((rowsQ atts k).length = k) := Lib.hid (rowsQ_len atts k)
      go_upto_region 6 with (fail)
      have hS := hS.drew
      obtain ⟨q0, q1⟩ := hS.b2.two_
      have q6 : wr.drew.cell? ⟨w.heap.size + 1 + 1 + 1, 0, none⟩ = some (.slice A (rowsQ atts k).length cc) := by simpa using hS.b6.cell 0
      refine wp_region_heldK 6 (fun w' => w'.cell? ⟨w.heap.size + 1 + 1 + 1, 0, none⟩ = some (.slice A (rowsQ atts k).length cc)) (fun w' => w'.cell? ⟨w.heap.size, 0, none⟩ = some (.slice SA segs.length c) ∧ w'.cell? ⟨w.heap.size, 1, none⟩ = some (.slice TA atts.length d)) (by kernel_rfl) ⟨q0, q1⟩ q6 (fun hT hS9 => ?_)
      (refine wpAnyK_take1 (i := 0) (v := ?_) (by (simp only [List.getElem?_toArray, List.getElem?_cons_zero]; rfl)) (by kernel_rfl) (by kernel_rfl) (by kernel_rfl) (by decide) (by kernel_rfl) (by kernel_rfl) (by exact fun _ _ _ h => h) (Or.inl ⟨by rfl, ?_⟩) (by assumption) (by assumption) ?_; (rotate_left 1; (intro w hSw; (try dsimp only at hSw); go_simp); (try with_reducible rfl)); (try simp only [Act.put, List.setIfInBounds_toArray, List.set_cons_zero, List.set_cons_succ]))
      (refine wpAnyK_take2 (i := 1) (v := ?_) (by (simp only [List.getElem?_toArray, List.getElem?_cons_succ, List.getElem?_cons_zero]; rfl)) (by kernel_rfl) (by kernel_rfl) (by kernel_rfl) (by decide) (by exact fun _ _ _ h => h) (Or.inl ⟨by rfl, ?_⟩) (by assumption) (by assumption) ?_; (rotate_left 1; (intro w hSw; (try dsimp only at hSw); go_simp); (try with_reducible rfl)); (try simp only [Act.put, List.setIfInBounds_toArray, List.set_cons_zero, List.set_cons_succ]))
      (refine wpAnyK_take2 (i := 2) (v := ?_) (by (simp only [List.getElem?_toArray, List.getElem?_cons_succ, List.getElem?_cons_zero]; rfl)) (by kernel_rfl) (by kernel_rfl) (by kernel_rfl) (by decide) (by exact fun _ _ _ h => h) (Or.inl ⟨by rfl, ?_⟩) (by assumption) (by assumption) ?_; (rotate_left 1; (intro w hSw; (try dsimp only at hSw); go_simp); (try with_reducible rfl)); (try simp only [Act.put, List.setIfInBounds_toArray, List.set_cons_zero, List.set_cons_succ]))
      refine wpAnyK_ready (rs := [3]) (by kernel_rfl) (by simp) ?_
      refine AllReadyK.cons rfl (fun K hK => ?_) AllReadyK.nil
      go_simp
      go_at_call 36
      refine (rowOf_any SA TA c d lo k segs atts _ (hh.below (hS.bel.mono (Nat.le_refl _))) HO.out).mono ?_
      rintro e w2 ⟨B, kc, rfl, hoB, hb2⟩
      have hS := hS.below hb2
      have hoB := own_weak hoB (show w.heap.size + 5 ≤ wr.heap.size from hzS)
      clear q0 q1 q6 hT hS9
      generalize sorted (rowA atts k) = row at *
      obtain ⟨q0, q1⟩ := hS.b2.two_
      have q6 : w2.cell? ⟨w.heap.size + 1 + 1 + 1, 0, none⟩ = some (.slice A (rowsQ atts k).length cc) := by simpa using hS.b6.cell 0
      go_wp2_with fail
      refine hK.out _ _ ⟨q0, q1⟩ q6 (fun hT hS9 => ?_)
      clear hK K
      (try simp only [Act.put, List.setIfInBounds_toArray, List.set_cons_zero, List.set_cons_succ])
      refine wpAnyK_ready (rs := [4]) (by kernel_rfl) (by simp) ?_
      refine AllReadyK.cons rfl (fun K hK => ?_) AllReadyK.nil
      go_simp
      have hby : Blk (w2.alloc (.cells #[.slice B row.length kc] 22)) w2.heap.size 22 #[.slice B row.length kc] := Blk.new _ _ _
      have hS := hS.alloc (.cells #[.slice B row.length kc] 22)
      have hoB := hoB.alloc (.cells #[.slice B row.length kc] 22)
      clear q0 q1 q6 hT hS9
      obtain ⟨q0, q1⟩ := hS.b2.two_
      have q6 : (w2.alloc (.cells #[.slice B row.length kc] 22)).cell? ⟨w.heap.size + 1 + 1 + 1, 0, none⟩ = some (.slice A (rowsQ atts k).length cc) := by simpa using hS.b6.cell 0
      refine hK.out _ _ ⟨q0, q1⟩ q6 (fun hT hS9 => ?_)
      clear hK K
      (try simp only [Act.put, List.setIfInBounds_toArray, List.set_cons_zero, List.set_cons_succ])
      refine wpAnyK_ready (rs := [5]) (by kernel_rfl) (by simp) ?_
      refine AllReadyK.cons rfl (fun K hK => ?_) AllReadyK.nil
      have hzz := hS.size
      refine step_app (lo := 0) (base := w.heap.size + 5) (n := (rowsQ atts k).length) (xs := cells) _ rfl _ _ ty_intss rfl hS.own rfl (Row.lit (n := 1) (size := 1) hby (Nat.zero_le _) rfl) rfl rfl (by omega) (by omega) hzz ?_
      intro A5 c5 w5 hown5 hg5 _
      have hp6 := Blk.far hS.own hS.b6 hg5 (by omega)
      have hp7 := Blk.far hS.own hS.b7 hg5 (by omega)
      have hp2 := Blk.far hS.own hS.b2 hg5 (by omega)
      have hpu := hS.push hg5 hown5 hoB
      clear q0 q1 q6 hT hS9 hS hoB hby
      obtain ⟨q0, q1⟩ := hp2.two_
      have q6 : w5.cell? ⟨w.heap.size + 1 + 1 + 1, 0, none⟩ = some (.slice A (rowsQ atts k).length cc) := by simpa using hp6.cell 0
      refine hK.out _ _ ⟨q0, q1⟩ q6 (fun hT hS9 => ?_)
      clear hK K
      (try simp only [Act.put, List.setIfInBounds_toArray, List.set_cons_zero, List.set_cons_succ])
      refine wpAnyK_ready (rs := [6]) (by kernel_rfl) (by simp) ?_
      refine AllReadyK.consT (by kernel_rfl) rfl (fun K hK => ?_) AllReadyK.nil
      have qf := hp6.thaw 0
      have qz := hp6.lt
      go_simp
      have hx2 := hp2.past (w.heap.size + 1 + 1 + 1) 0 (.slice A5 ((rowsQ atts k).length + 1) c5) (by omega)
      obtain ⟨x0, x1⟩ := hx2.two_
      refine hK.out _ _ ⟨x0, x1⟩ (fun hT => ?_)
      clear hK K
      (try simp only [Act.put, List.setIfInBounds_toArray, List.set_cons_zero, List.set_cons_succ])
      refine wpAnyK_done (by kernel_rfl) ?_ _
      have hkb : k < (rowsQ atts k).length + 1 := by rw [HRK.out]; omega
      have y7 := (hp7.past (w.heap.size + 1 + 1 + 1) 0 (.slice A5 ((rowsQ atts k).length + 1) c5) (by omega)).cell 0
      have y7f := (hp7.past (w.heap.size + 1 + 1 + 1) 0 (.slice A5 ((rowsQ atts k).length + 1) c5) (by omega)).thaw 0
      have y6 := (hp6.poke 0 (.slice A5 ((rowsQ atts k).length + 1) c5)).cell 0
      have hownX := own_low hown5 (show w.heap.size + 1 + 1 + 1 < w.heap.size + 5 by omega) 0 (.slice A5 ((rowsQ atts k).length + 1) c5)
      have hcl : (cells ++ [Value.slice B row.length kc])[k]? = some (.slice B row.length kc) := by
        have h1 : cells.length = k := by have := hpu.own.1; simp at this; rw [HRK.out] at this; omega
        rw [List.getElem?_append_right (by omega), h1]; simp
      obtain ⟨g5, cs5, rfl, hg59, hblk5, hcs5, _⟩ := own_blkS hownX (by omega)
      have y5 : (w5.setCell ⟨w.heap.size + 1 + 1 + 1, 0, none⟩ (.slice (some ⟨g5, 0, none⟩) ((rowsQ atts k).length + 1) c5)).cell? ⟨g5, k, none⟩ = some (.slice B row.length kc) := by
        rw [Blk.cell hblk5, hcs5 k hkb]; exact hcl
      have z7 := hp7.lt
      have z5 := Blk.lt hblk5
      have zx : w5.heap.size = (w5.setCell ⟨w.heap.size + 1 + 1 + 1, 0, none⟩ (.slice (some ⟨g5, 0, none⟩) ((rowsQ atts k).length + 1) c5)).heap.size := by simp
      simp only [List.setIfInBounds_toArray, List.set_cons_zero, List.getElem?_toArray, List.getElem?_cons_zero] at y6 y7
      clear hownX hown5 hblk5 hcs5 hcl hp6 hp7 hp2 hx2 x0 x1 hT hg5 HRK qf qz
      generalize hfu : fullB (rowsQ atts k) = fu at *
      have HQ9 := HQS
      generalize (rowsQ atts k) = rk at *
      generalize hwX : w5.setCell ⟨w.heap.size + 1 + 1 + 1, 0, none⟩ (.slice (some ⟨g5, 0, none⟩) (rk.length + 1) c5) = wX at *
      rw [zx] at z7
      clear hwX zx hfu
      cases fu
      · go_wp2_with fail
        go_roundw
        case rel => exact ⟨k + 1, some ⟨g5, 0, none⟩, c5, cells ++ [.slice B row.length kc], by omega, by go_num, by rw [HQ9.out]; exact hpu⟩
        case measure => simp [intOf]; omega
      · go_wp2_with fail
        go_roundw
        case rel => exact ⟨k + 1, some ⟨g5, 0, none⟩, c5, cells ++ [.slice B row.length kc], by omega, by go_num, by rw [HQ9.out]; first | exact hpu | simpa using hpu⟩
        case measure => simp [intOf]; omega
    · have hkn : k = segs.length := by omega
      subst hkn
      have hrl : 1 ≤ (rowsQ atts segs.length).length ∧ (rowsQ atts segs.length).length ≤ 60 := by rw [HRL.out]; omega
      have hbI := bI_inv segs.length atts atts.length (Nat.le_refl _)
      generalize rowsQ atts segs.length = rows at *
      obtain ⟨g, rfl, hRR⟩ := hS.rows_ (by omega)
      obtain ⟨q0, q1⟩ := hS.b2.two_
      have zq := hS.b2.lt
      go_wp2_with fail
      refine (bestAttempt_ok SA TA c d _ segs atts _ (hh.below hS.bel) n1 n2 (by omega)).mono ?_
      rintro e w3 ⟨rfl, hb⟩
      have hS := hS.below hb
      have hRR := hRR.below hb
      have hBx := hS.bel
      clear q0 q1 zq hb
      obtain ⟨q0, q1⟩ := hS.b2.two_
      have zq := hS.b2.lt
      by_cases h1 : how = 1
      · have d1 : (how == 1) = true := by simpa using h1
        have HC : Hid (cmpO segs.length atts how = bestO segs.length atts) := Lib.hid (by rw [h1]; exact H1.out)
        clear h1 H1 H2 H3 H4 H5 H6
        rcases hbI with h | ⟨j, hj, h, _, hn⟩
        · have HB := Lib.hid (HC.out.trans (bestO_none h))
          rw [h]
          clear h q0 q1 zq
          have k4 := hS.b4
          have k5 := hS.b5
          have c4 := k4.cell 0
          have c5 := k5.cell 0
          have f4 := k4.thaw 0
          have f5 := k5.thaw 0
          have z4 := k4.lt
          have z5 := k5.lt
          simp only [List.getElem?_toArray, List.getElem?_cons_zero] at c4 c5
          go_wp2_with fail
          obtain ⟨e4, e5⟩ := cells45 hS.b4 hS.b5 (show w.heap.size + 1 ≠ w.heap.size + 1 + 1 by omega) (.slice none 0 0) (.bool false)
          refine bodyM_of (bodyPost_ret (v := .tuple #[.slice none 0 0, .bool false]) (by simp [results, Tryz.results39, go_sem, e4, e5]) rfl ?_)
          exact RSplitsPost.none_ HB.out hS.bel
        · have HB := Lib.hid (HC.out.trans (bestO_at h hj))
          rw [h]
          obtain ⟨tb, tO, B, cB, rfl, ztb, t0, t1, hrB2⟩ := hh.att hj
          have t1 := (hS.bel.cell (p := ⟨tb, tO + j * 2 + 1, none⟩) ztb).trans t1
          have ztb3 := Nat.lt_of_lt_of_le ztb hS.bel.size
          have dj : decide ((j : Int) < 0) = false := decide_eq_false (by omega)
          generalize atts[j].2 = l at *
          clear h hn
          have k4 := hS.b4
          have k5 := hS.b5
          have c4 := k4.cell 0
          have c5 := k5.cell 0
          have f4 := k4.thaw 0
          have f5 := k5.thaw 0
          have z4 := k4.lt
          have z5 := k5.lt
          simp only [List.getElem?_toArray, List.getElem?_cons_zero] at c4 c5
          go_wp2_with fail
          obtain ⟨e4, e5⟩ := cells45 hS.b4 hS.b5 (show w.heap.size + 1 ≠ w.heap.size + 1 + 1 by omega) (.slice B l.length cB) (.bool true)
          refine bodyM_of (bodyPost_ret (v := .tuple #[.slice B l.length cB, .bool true]) (by simp [results, Tryz.results39, go_sem, e4, e5]) rfl ?_)
          exact RSplitsPost.row HB.out hS.bel hrB2
      have d1 : (how == 1) = false := by simpa using h1
      by_cases h5 : how = 5
      · have d5 : (how == 5) = true := by simpa using h5
        have HC : Hid (cmpO segs.length atts how = lastO segs.length atts atts.length) := Lib.hid (by rw [h5]; exact H5.out)
        clear h1 h5 H1 H2 H3 H4 H5 H6 hbI hRR
        obtain ⟨Bf, cf, hcells, hrows⟩ := hh.fun_
        have HROWS := Lib.hid hrows
        have HCELLS := Lib.hid hcells
        clear hrows hcells
        go_wp2_with fail
        refine (backward_any TA atts.length d _).mono ?_
        rintro e w9 ⟨rfl, rfl⟩
        have hS := hS.alloc (.cells #[.slice TA atts.length d] 27)
        have hbB : Blk (w3.alloc (.cells #[.slice TA atts.length d] 27)) w3.heap.size 27 #[.slice TA atts.length d] := Blk.new _ _ _
        obtain ⟨Bs, hBs⟩ : ∃ Bs, w3.heap.size = Bs := ⟨_, rfl⟩
        rw [hBs] at hbB ⊢
        generalize w3.alloc (.cells #[.slice TA atts.length d] 27) = W0 at *
        clear q0 q1 zq hBx hBs
        have hzS := hS.size
        have hbBl := hbB.lt
        have hcB : W0.cell? ⟨Bs, 0, none⟩ = some (.slice TA atts.length d) := by simpa using hbB.cell 0
        have hBel0 : Below w.heap.size w W0 := hS.bel
        have HCELL0 := Lib.hid (fun h0 => (let ⟨b, off, e, hb, hc⟩ := HCELLS.out h0; ⟨b, off, e, Nat.lt_of_lt_of_le hb hBel0.size, fun j hj => ⟨(hBel0.cell (p := ⟨b, _, none⟩) hb).trans (hc j hj).1, (hBel0.cell (p := ⟨b, _, none⟩) hb).trans (hc j hj).2⟩⟩ : ∃ b off, TA = some ⟨b, off, none⟩ ∧ b < W0.heap.size ∧ ∀ j, j < atts.length → W0.cell? ⟨b, off + j * 2, none⟩ = some (.int .i64 (atts.getD j (0, [])).1) ∧ W0.cell? ⟨b, off + j * 2 + 1, none⟩ = some (.slice (Bf j) (atts.getD j (0, [])).2.length (cf j))))
        go_wp2_with fail
        refine (wpIn_wide (n := 9)).1 ?_
        refine (fun (_ : Nat → Nat → Array Value) h => h) ?T ?main
        case main =>
          refine wpIn_rangeFunc_ownH (F := Fence.wide) (n := 9) rfl (by decide) (gf := 104) (lb := #[.pointer (some ⟨Bs, 0, none⟩)]) rfl trivial (enters_of Tryz.func104 (by kernel_rfl) rfl)
            (backward_stops Fence.wide 8 trivial rfl (by decide) Bs W0.heap.size atts.length d TA (fun x => .int .i64 (atts.getD x (0, [])).1) (fun x => .slice (Bf x) (atts.getD x (0, [])).2.length (cf x)) (by omega) W0 hbBl (Nat.le_refl _) hcB HCELL0.out) belowK_t (belowK_b (Nat.le_refl _)) (Below.refl _ _) (fun _ => rfl)
            (fun pre W => PnoF segs.length atts pre ∧ Below W0.heap.size W0 W)
            (fun c pre W => (c = .ret ∧ ∃ pre' x, pre = pre' ++ [x] ∧ PnoF segs.length atts pre' ∧ (atts.getD x (0, [])).2.length = segs.length) ∧ (Boxed W (w.heap.size + 1) 22 (.slice (Bf (pre.getLastD 0)) (atts.getD (pre.getLastD 0) (0, [])).2.length (cf (pre.getLastD 0))) ∧ (Boxed W (w.heap.size + 1 + 1) 4 (.bool true) ∧ Below w.heap.size w W)))
            (OwnFrom.and (ownFrom_pure _ _) (ownFrom_below (Nat.le_refl _) (Nat.le_refl _)))
            (fun c => OwnFrom.and (ownFrom_pure _ (fun pre => c = .ret ∧ ∃ pre' x, pre = pre' ++ [x] ∧ PnoF segs.length atts pre' ∧ (atts.getD x (0, [])).2.length = segs.length)) (OwnFrom.and (Own.from (boxed_own _ _ (fun pre : List Nat => Value.slice (Bf (pre.getLastD 0)) (atts.getD (pre.getLastD 0) (0, [])).2.length (cf (pre.getLastD 0)))) _) (OwnFrom.and (Own.from (boxed_own _ _ (fun _ : List Nat => Value.bool true)) _) (ownFrom_below (Nat.le_refl _) (by omega)))))
            ⟨(fun y hy => by cases hy), Below.refl _ _⟩
            (fun x a' W => ∃ Bx, W0.heap.size ≤ Bx ∧ Blk W Bx 45 #[.int .i64 (atts.getD x (0, [])).1, .slice (Bf x) (atts.getD x (0, [])).2.length (cf x)] ∧ a' = { tmps := ?T x Bx, defers := [] })
            (fun x a' => ax_own _ _ _ (fun x => #[.int .i64 (atts.getD x (0, [])).1, .slice (Bf x) (atts.getD x (0, [])).2.length (cf x)]) _ x a')
            ?assign ?body ?done ?stop
          case assign =>
            rintro l pre x W K ⟨hP, hB⟩ hK
            gi_wp2
            refine hK _ _ ((KeepsOthers.alloc _ _).from _) ((Below.refl _ W).alloc hB.size _) ⟨hP, hB.alloc hB.size _⟩ ⟨W.heap.size, hB.size, Blk.new _ _ _, ?_⟩
            generalize W.heap.size = bx
            rfl
          case body =>
            rintro l pre x a' W hl ⟨r, hr⟩ ⟨hP, hB⟩ ⟨Bx, hBx, bX, rfl⟩ hlt
            have hSW := hS.below hB
            obtain ⟨q0, q1⟩ := hSW.b2.two_
            have zq := hSW.b2.lt
            obtain ⟨x0, x1⟩ := bX.two_
            have zX := bX.lt
            have HL : Hid (PnoF segs.length atts pre → (atts.getD x (0, [])).2.length ≠ segs.length → PnoF segs.length atts (pre ++ [x])) := Lib.hid (fun h h' y hy => by
              rcases List.mem_append.1 hy with hy | hy
              · exact h y hy
              · simp at hy; subst hy; exact h')
            have HGL : Hid ((pre ++ [x]).getLastD 0 = x) := Lib.hid (by simp [List.getLastD_eq_getLast?])
            have HRF := Lib.hid (fun (Wn : World) => rfinished_any SA TA (Bf x) c d (atts.getD x (0, [])).2.length (cf x) atts.length (atts.getD x (0, [])).1 segs.length Wn)
            have hlx0 : ∃ lx, (atts.getD x (0, [])).2.length = lx := ⟨_, rfl⟩
            obtain ⟨lx, hlx⟩ := hlx0
            have HLX := Lib.hid hlx
            have hKF : ∀ w' : World, Below W.heap.size W w' → KeepsFrom W0.heap.size W w' := fun w' hb => ⟨hb.size, fun k o _ hk _ => (hb.block k (Array.getElem?_eq_some_iff.1 hk).1).trans hk⟩
            have HKF := Lib.hid hKF
            rw [hlx] at HL HRF x1
            clear hlx hKF
            generalize hnx : (atts.getD x (0, [])).1 = nx at *
            clear hnx
            by_cases hf : lx = segs.length
            · have d9 : decide (lx = segs.length) = true := decide_eq_true hf
              have hf9 := Lib.hid hf
              clear hf
              gi_wp2_with (refine ⟨trivial, ?_⟩; gi_at_call 67; refine (CallsIn.inRound l (callsIn_wide.2 (HRF.out _))).mono ?_; rintro e w' ⟨rfl, hb5⟩; have hS5 := hSW.below hb5; have x1 := (hb5.cell zX).trans x1; have k4 := hS5.b4; have k5 := hS5.b5; have c4 := k4.cell 0; have c5 := k5.cell 0; have f4 := k4.thaw 0; have f5 := k5.thaw 0; have z4 := k4.lt; have z5 := k5.lt; simp only [List.getElem?_toArray, List.getElem?_cons_zero] at c4 c5; have zX5 := Nat.lt_of_lt_of_le zX hb5.size)
              refine ⟨(HKF.out _ hb5).trans (((KeepsOthers.setCell _ _ _).from _).trans ((KeepsOthers.setCell _ _ _).from _)), ⟨rfl, pre, x, rfl, hP, by rw [HLX.out, hf9.out]⟩, ?_, ?_, ?_⟩
              · rw [HGL.out, HLX.out]
                exact (boxed45 k4 k5 (by omega) _ _).1
              · exact (boxed45 k4 k5 (by omega) _ _).2
              · exact Below.setCell (Below.setCell hS5.bel (by simp) _) (by simp; omega) _
            · have d9 : decide (lx = segs.length) = false := decide_eq_false hf
              have hf9 := Lib.hid hf
              clear hf
              gi_wp2_with (refine ⟨trivial, ?_⟩; gi_at_call 67; refine (CallsIn.inRound l (callsIn_wide.2 (HRF.out _))).mono ?_; rintro e w' ⟨rfl, hb5⟩)
              exact ⟨HKF.out _ hb5, hb5.mono hB.size, HL.out hP hf9.out, hB.trans (hb5.mono hB.size)⟩
          case done =>
            rintro D ys W hD rfl ⟨hP, hB⟩ hK
            have hSW := hS.below hB
            have HN : Hid (cmpO segs.length atts how = none) := Lib.hid (by rw [HC.out, lastO_done hP])
            have k4 := hSW.b4
            have k5 := hSW.b5
            have c4 := k4.cell 0
            have c5 := k5.cell 0
            have f4 := k4.thaw 0
            have f5 := k5.thaw 0
            have z4 := k4.lt
            have z5 := k5.lt
            simp only [List.getElem?_toArray, List.getElem?_cons_zero] at c4 c5
            obtain ⟨e4, e5⟩ := cells45 k4 k5 (show w.heap.size + 1 ≠ w.heap.size + 1 + 1 by omega) (.slice none 0 0) (.bool false)
            have hK2 : ((W.setCell ⟨w.heap.size + 1, 0, none⟩ (.slice none 0 0)).setCell ⟨w.heap.size + 1 + 1, 0, none⟩ (.bool false)).heap[D]? = some (.deferred (some [])) := (KeepsOthers.setCell _ _ _).same D _ ((KeepsOthers.setCell _ _ _).same D _ hK rfl) rfl
            have hBl : Below w.heap.size w ((W.setCell ⟨w.heap.size + 1, 0, none⟩ (.slice none 0 0)).setCell ⟨w.heap.size + 1 + 1, 0, none⟩ (.bool false)) := Below.setCell (Below.setCell hSW.bel (by simp) _) (by simp; omega) _
            have HK2 := Lib.hid hK2
            have HE4 := Lib.hid e4
            have HE5 := Lib.hid e5
            clear hK2 e4 e5 k4 k5 hSW hB hP
            go_wp2_with fail
            have g4 := cell_kept HE4.out (grownBy_putObj' _ D (.deferred none)) (fun r e => by cases e; exact ⟨_, HK2.out, rfl⟩)
            have g5 := cell_kept HE5.out (grownBy_putObj' _ D (.deferred none)) (fun r e => by cases e; exact ⟨_, HK2.out, rfl⟩)
            refine bodyM_mark (D := D) (v := .tuple #[.slice none 0 0, .bool false]) rfl HK2.out (by simp [results, Tryz.results39, go_sem, g4, g5]) ?_
            exact RSplitsPost.at_ HN.out (hBl.trans (belowK_b (w := w) (Nat.le_refl _) _ D _ _ (by omega) HK2.out rfl rfl))
          case stop =>
            rintro D c pre W hD ⟨k, hk, hdk⟩ ⟨⟨rfl, pre', x, rfl, hP, hx⟩, b4, b5, hB⟩ hK
            obtain ⟨hxl, hlo⟩ := lastO_stop hk hdk hP hx
            have hgl : (pre' ++ [x]).getLastD 0 = x := by simp [List.getLastD_eq_getLast?]
            have eg : atts.getD x (0, []) = atts[x] := by rw [List.getD_eq_getElem?_getD, List.getElem?_eq_getElem hxl]; rfl
            rw [hgl] at b4
            rw [eg] at b4 hlo
            have HN : Hid (cmpO segs.length atts how = some atts[x].2) := Lib.hid (HC.out.trans hlo)
            have hrX := HROWS.out x hxl
            have g4 := cell_kept b4.cell (grownBy_putObj' _ D (.deferred none)) (fun r e => by cases e; exact ⟨_, hK, rfl⟩)
            have g5 := cell_kept b5.cell (grownBy_putObj' _ D (.deferred none)) (fun r e => by cases e; exact ⟨_, hK, rfl⟩)
            generalize atts[x].2 = l at *
            clear hlo eg hx hdk b4 b5
            refine wpIn_wide.2 ?_
            go_wp2_with fail
            refine bodyM_mark (D := D) (v := .tuple #[.slice (Bf x) l.length (cf x), .bool true]) rfl hK (by simp [results, Tryz.results39, go_sem, g4, g5]) ?_
            exact RSplitsPost.at_row HN.out (hB.trans (belowK_b (w := w) (Nat.le_refl _) _ D _ _ (by omega) hK rfl rfl)) hrX
      have d5 : (how == 5) = false := by simpa using h5
      by_cases h2 : how = 2
      · have d2 : (how == 2) = true := by simpa using h2
        have HC : Hid (cmpO segs.length atts how = eachO goldF rows) := Lib.hid (by rw [h2]; exact H2.out)
        clear h1 h5 h2 H1 H2 H3 H4 H5 H6 hbI
        go_wp2_with fail
        refine (reach2_any _ _ g cc rows _ hS.b7 hS.b6 hRR HROK.out hrl.2).mono ?_
        rintro e w4 ⟨A5, c9, rfl, ho5, hb5⟩
        have hz3 := hS.size
        have hS := hS.below hb5
        have hbz := hb5.size
        clear q0 q1 zq hBx hRR
        have k4 := hS.b4
        have k5 := hS.b5
        have c4 := k4.cell 0
        have c5 := k5.cell 0
        have f4 := k4.thaw 0
        have f5 := k5.thaw 0
        have z4 := k4.lt
        have z5 := k5.lt
        simp only [List.getElem?_toArray, List.getElem?_cons_zero] at c4 c5
        go_wp2_with fail
        obtain ⟨e4, e5⟩ := cells45 hS.b4 hS.b5 (show w.heap.size + 1 ≠ w.heap.size + 1 + 1 by omega) (.slice A5 (optL (eachO goldF rows)).length c9) (.bool (eachO goldF rows).isSome)
        refine bodyM_of (bodyPost_ret (v := .tuple #[.slice A5 (optL (eachO goldF rows)).length c9, .bool (eachO goldF rows).isSome]) (by simp [results, Tryz.results39, go_sem, e4, e5]) rfl ?_)
        exact RSplitsPost.own HC.out hS.bel ho5 (by omega)
      have d2 : (how == 2) = false := by simpa using h2
      by_cases h4 : how = 4
      · have d4 : (how == 4) = true := by simpa using h4
        have HC : Hid (cmpO segs.length atts how = eachO (fun r => levA r 500) rows) := Lib.hid (by rw [h4]; exact H4.out)
        clear h1 h5 h2 h4 H1 H2 H3 H4 H5 H6 hbI
        go_wp2_with fail
        refine (reach4_any _ _ g cc rows _ hS.b7 hS.b6 hRR HROK.out hrl.2).mono ?_
        rintro e w4 ⟨A5, c9, rfl, ho5, hb5⟩
        have hz3 := hS.size
        have hS := hS.below hb5
        have hbz := hb5.size
        clear q0 q1 zq hBx hRR
        have k4 := hS.b4
        have k5 := hS.b5
        have c4 := k4.cell 0
        have c5 := k5.cell 0
        have f4 := k4.thaw 0
        have f5 := k5.thaw 0
        have z4 := k4.lt
        have z5 := k5.lt
        simp only [List.getElem?_toArray, List.getElem?_cons_zero] at c4 c5
        go_wp2_with fail
        obtain ⟨e4, e5⟩ := cells45 hS.b4 hS.b5 (show w.heap.size + 1 ≠ w.heap.size + 1 + 1 by omega) (.slice A5 (optL (eachO (fun r => levA r 500) rows)).length c9) (.bool (eachO (fun r => levA r 500) rows).isSome)
        refine bodyM_of (bodyPost_ret (v := .tuple #[.slice A5 (optL (eachO (fun r => levA r 500) rows)).length c9, .bool (eachO (fun r => levA r 500) rows).isSome]) (by simp [results, Tryz.results39, go_sem, e4, e5]) rfl ?_)
        exact RSplitsPost.own HC.out hS.bel ho5 (by omega)
      have d4 : (how == 4) = false := by simpa using h4
      by_cases h3 : how = 3
      · have d3 : (how == 3) = true := by simpa using h3
        have HC : Hid (cmpO segs.length atts how = eachO mnA rows) := Lib.hid (by rw [h3]; exact H3.out)
        clear h1 h5 h2 h4 h3 H1 H2 H3 H4 H5 H6 hbI
        go_wp2_with fail
        refine (reach3_any _ _ g cc rows _ hS.b7 hS.b6 hRR HROK.out hrl.2).mono ?_
        rintro e w4 ⟨A5, c9, rfl, ho5, hb5⟩
        have hz3 := hS.size
        have hS := hS.below hb5
        have hbz := hb5.size
        clear q0 q1 zq hBx hRR
        have k4 := hS.b4
        have k5 := hS.b5
        have c4 := k4.cell 0
        have c5 := k5.cell 0
        have f4 := k4.thaw 0
        have f5 := k5.thaw 0
        have z4 := k4.lt
        have z5 := k5.lt
        simp only [List.getElem?_toArray, List.getElem?_cons_zero] at c4 c5
        go_wp2_with fail
        obtain ⟨e4, e5⟩ := cells45 hS.b4 hS.b5 (show w.heap.size + 1 ≠ w.heap.size + 1 + 1 by omega) (.slice A5 (optL (eachO mnA rows)).length c9) (.bool (eachO mnA rows).isSome)
        refine bodyM_of (bodyPost_ret (v := .tuple #[.slice A5 (optL (eachO mnA rows)).length c9, .bool (eachO mnA rows).isSome]) (by simp [results, Tryz.results39, go_sem, e4, e5]) rfl ?_)
        exact RSplitsPost.own HC.out hS.bel ho5 (by omega)
      have d3 : (how == 3) = false := by simpa using h3
      have HC := Lib.hid (H6.out how h1 h2 h3 h4 h5)
      clear h1 h2 h3 h4 h5 H1 H2 H3 H4 H5 H6
      rcases hbI with h | ⟨j, hj, h, _, hn⟩
      · have HN : Hid (cmpO segs.length atts how = none) := Lib.hid (by rw [HC.out, h]; rfl)
        rw [h]
        clear h q0 q1 zq
        have k4 := hS.b4
        have k5 := hS.b5
        have c4 := k4.cell 0
        have c5 := k5.cell 0
        have f4 := k4.thaw 0
        have f5 := k5.thaw 0
        have z4 := k4.lt
        have z5 := k5.lt
        simp only [List.getElem?_toArray, List.getElem?_cons_zero] at c4 c5
        go_wp2_with fail
        obtain ⟨e4, e5⟩ := cells45 hS.b4 hS.b5 (show w.heap.size + 1 ≠ w.heap.size + 1 + 1 by omega) (.slice none 0 0) (.bool false)
        refine bodyM_of (bodyPost_ret (v := .tuple #[.slice none 0 0, .bool false]) (by simp [results, Tryz.results39, go_sem, e4, e5]) rfl ?_)
        exact RSplitsPost.none_ HN.out hS.bel
      · have hneg : ¬ ((j : Int) < 0) := by omega
        have HJ := Lib.hid (HC.out.trans (by rw [h, if_neg hneg]))
        have dj : decide ((j : Int) < 0) = false := decide_eq_false hneg
        rw [h]
        clear hneg
        obtain ⟨tb, tO, B, cB, rfl, ztb, t0, t1, hrB2⟩ := hh.att hj
        obtain ⟨l, hl⟩ : ∃ l, l + 1 = segs.length := ⟨segs.length - 1, by omega⟩
        have hl1 : l < atts[j].2.length := by omega
        obtain ⟨b5, o5, rfl, _, zb5, x5⟩ := hrB2.int_at hl1
        have hmost : bT segs.length atts = atts[j].2[l] := by
          have := (bT_at h hj hn (by omega)).1
          rw [this]; congr 1; omega
        have HM := Lib.hid (show cmpO segs.length atts how = if fullB rows = true then evenO rows atts[j].2[l] else none by rw [HJ.out, hmost])
        have wl : IntKind.i64.wrap ((segs.length : Int) - 1) = (l : Int) := by rw [IntWalk.i64_in _ ⟨by omega, by omega⟩]; omega
        have hls : l < segs.length := by omega
        have t1 := (hS.bel.cell (p := ⟨tb, tO + j * 2 + 1, none⟩) ztb).trans t1
        have x5 := (hS.bel.cell (p := ⟨b5, o5 + l, none⟩) zb5).trans x5
        have ztb3 := Nat.lt_of_lt_of_le ztb hS.bel.size
        have zb53 := Nat.lt_of_lt_of_le zb5 hS.bel.size
        rw [hn] at t1
        generalize atts[j].2[l] = most at *
        clear hmost h hn hl1 hrB2 HC HJ
        go_wp2_with fail
        go_quiet (fail)
        have hS := hS.below (below_drewN' (Below.refl _ _) nq)
        have hRR := hRR.below (below_drewN' (Below.refl _ _) nq)
        clear q0 q1 zq t0 t1 x5 ztb3 zb53 ztb zb5
        generalize w3.drewN nq = w4 at *
        go_wp2_with fail
        have hkp : Blk (w4.alloc (.cells #[.int .i64 0] 3)) w4.heap.size 3 #[.int .i64 (0 : Nat)] := Blk.new _ _ _
        have hb9 : Below w4.heap.size w4 (w4.alloc (.cells #[.int .i64 0] 3)) := (Below.refl _ _).alloc (Nat.le_refl _) _
        obtain ⟨pz, hpz⟩ : ∃ pz, w4.heap.size = pz := ⟨_, rfl⟩
        generalize w4.alloc (.cells #[.int .i64 0] 3) = w5 at *
        rw [hpz] at hkp ⊢
        have hpz' : w4.heap.size ≤ pz := by omega
        clear hpz
        go_loopw [13, 14, 16] (fun v b p wr => ∃ (q : Nat) (A : Option Addr) (c9 pp : Nat), q ≤ 1001 ∧ v = .slice A (optL (oQ rows most q)).length c9 ∧ b = .bool (oQ rows most q).isSome ∧ p = .pointer (some ⟨pp, 0, none⟩) ∧ Blk wr pp 3 #[.int .i64 q] ∧ w4.heap.size ≤ pp ∧ (∀ a, A = some a → a.block < pp) ∧ Row wr (w.heap.size + 3) 1 A (optL (oQ rows most q)).length (ints (optL (oQ rows most q))) ∧ Below w4.heap.size w4 wr) (fun _ _ p wr => (1001 - boxOf p wr).toNat)
        case atStart =>
          refine ⟨0, none, 0, pz, by omega, ?_, ?_, rfl, hkp, hpz', ?_, ?_, hb9⟩
          · rw [oQ_zero]; rfl
          · rw [oQ_zero]; rfl
          · intro a h; cases h
          · rw [oQ_zero]; exact Row.none_ _ _ _ _
        case round =>
          clear hkp hb9 hpz'
          obtain ⟨q, A9, c9, pp, hq, rfl, rfl, rfl, hkp, hpp, hA, hrA, hbw⟩ := hrel
          have hSw := hS.below hbw
          have hRw := hRR.below hbw
          have kp := hkp.cell 0
          simp only [List.getElem?_toArray, List.getElem?_cons_zero] at kp
          have kpz := hkp.lt
          have hmea := boxOf_is hkp
          by_cases hlt : q ≤ 1000
          · have d1 : decide ((q : Int) ≤ 1000) = true := decide_eq_true (by omega)
            go_wp2_with fail
            refine (reach5_any pp q _ _ g cc rows _ hSw.b7 hSw.b6 hRw HROK.out hrl.2 hlt hkp).mono ?_
            rintro e w6 ⟨A6, c6, rfl, ho6, hb6⟩
            have hsz := hbw.size
            have hz45 := hS.size
            have hx6 := below_up hbw hb6
            have hS6 := hSw.below hb6
            have hk6 := hkp.below hb6
            have hrA6 := hrA.below hb6
            have hA9 : ∀ a, A9 = some a → a.block < w6.heap.size := fun a h => by have := hA a h; have := hkp.lt; have := hb6.size; omega
            have kp := hk6.cell 0
            simp only [List.getElem?_toArray, List.getElem?_cons_zero] at kp
            have kpz := hk6.lt
            have wq : IntKind.i64.wrap ((q : Int) + 1) = ((q + 1 : Nat) : Int) := by rw [IntWalk.i64_in _ ⟨by omega, by omega⟩]; omega
            have hz6 := hb6.size
            have hz4 : w4.heap.size ≤ w6.heap.size := hx6.size
            clear hSw hRw hkp hrA hbw hb6
            by_cases hF : fullB rows = true
            · have hE : eachO (levA · q) rows = some (addA (rows.map (levA · q))) := by unfold eachO; rw [if_pos hF]
              have HY := Lib.hid (fun h => oQ_yes (most := most) (q := q) hF h)
              have HNO := Lib.hid (fun h => oQ_no (rows := rows) (most := most) (q := q) h)
              have hll : 1 ≤ (rows.map (levA · q)).length ∧ (rows.map (levA · q)).length ≤ 60 := by simp; omega
              rw [hE] at ho6 ⊢
              rw [optL_some] at ho6 ⊢
              have hA6 : ∀ a, A6 = some a → a.block < w6.heap.size := fun a h => (ho6.lt a.block (by rw [h]; rfl)).2
              have hrR : Row w6 (w.heap.size + 3) 1 A6 (addA (rows.map (levA · q))).length (ints (addA (rows.map (levA · q)))) := (Row.of_own ho6).weak (by omega)
              clear hE ho6 hF
              generalize rows.map (levA · q) = l at *
              have hla : 1 ≤ (addA l).length ∧ (addA l).length ≤ 60 := by rw [addA_len]; omega
              obtain ⟨m, hm1⟩ : ∃ m, m + 1 = (addA l).length := ⟨(addA l).length - 1, by omega⟩
              have hml : m < (addA l).length := by omega
              obtain ⟨b, off, rfl, _, hbs, c9'⟩ := hrR.int_at hml
              have es : (addA l)[m] = l.sum := by
                rw [addA_at]
                have : m + 1 = l.length := by rw [hm1, addA_len]
                rw [this, preS_all]
              rw [es] at c9'
              have wm : IntKind.i64.wrap (((addA l).length : Int) - 1) = (m : Int) := by rw [IntWalk.i64_in _ ⟨by omega, by omega⟩]; omega
              generalize l.sum = s at *
              clear es
              generalize addA l = al at *
              clear hm1
              by_cases hs : s ≤ most
              · have HQ := Lib.hid (HY.out hs)
                have d2 : decide (s ≤ most) = true := decide_eq_true hs
                clear HY HNO hs
                go_wp2_with fail
                go_roundw
                case rel => exact ⟨q + 1, some ⟨b, off, none⟩, c6, w6.heap.size, by omega, by rw [HQ.out]; rfl, by rw [HQ.out]; rfl, rfl, Blk.new _ _ _, hz4, hA6, by rw [HQ.out]; exact hrR.alloc _, (by repeat (first | exact hx6 | refine Below.alloc ?_ (by first | omega | (simp; omega)) _ | refine below_drewN' ?_ _ | refine Below.drew ?_))⟩
                case measure =>
                  rw [boxOf_is (q := (q : Int) + 1) (Blk.new _ _ _), hmea]
                  omega
              · have HQ : Hid (oQ rows most (q + 1) = oQ rows most q) := Lib.hid (by first | exact HNO.out hs | exact HNO.out (by omega))
                have d2 : decide (s ≤ most) = false := decide_eq_false hs
                clear HY HNO hs
                go_wp2_with fail
                go_roundw
                case rel => exact ⟨q + 1, A9, c9, w6.heap.size, by omega, by rw [HQ.out], by rw [HQ.out], rfl, Blk.new _ _ _, hz4, hA9, by rw [HQ.out]; exact hrA6.alloc _, (by repeat (first | exact hx6 | refine Below.alloc ?_ (by first | omega | (simp; omega)) _ | refine below_drewN' ?_ _ | refine Below.drew ?_))⟩
                case measure =>
                  rw [boxOf_is (q := (q : Int) + 1) (Blk.new _ _ _), hmea]
                  omega
            · have hE : eachO (levA · q) rows = none := by unfold eachO; rw [if_neg hF]
              have HQ : Hid (oQ rows most (q + 1) = oQ rows most q) := Lib.hid (by rw [oQ_not hF, oQ_not hF])
              rw [hE] at ho6 ⊢
              clear hE hF ho6
              go_wp2_with fail
              go_roundw
              case rel => exact ⟨q + 1, A9, c9, w6.heap.size, by omega, by rw [HQ.out], by rw [HQ.out], rfl, Blk.new _ _ _, hz4, hA9, by rw [HQ.out]; exact hrA6.alloc _, (by repeat (first | exact hx6 | refine Below.alloc ?_ (by first | omega | (simp; omega)) _ | refine below_drewN' ?_ _ | refine Below.drew ?_))⟩
              case measure =>
                rw [boxOf_is (q := (q : Int) + 1) (Blk.new _ _ _), hmea]
                omega
          · have hq1 : q = 1001 := by omega
            subst hq1
            have HQA : Hid (cmpO segs.length atts how = oQ rows most 1001) := Lib.hid (by rw [HM.out, oQ_all])
            have hBel : Below w.heap.size w wr := hSw.bel
            have k4 := hSw.b4
            have k5 := hSw.b5
            have c4 := k4.cell 0
            have c5 := k5.cell 0
            have f4 := k4.thaw 0
            have f5 := k5.thaw 0
            have z4 := k4.lt
            have z5 := k5.lt
            simp only [List.getElem?_toArray, List.getElem?_cons_zero] at c4 c5
            obtain ⟨e4, e5⟩ := cells45 k4 k5 (show w.heap.size + 1 ≠ w.heap.size + 1 + 1 by omega) (.slice A9 (optL (oQ rows most 1001)).length c9) (.bool (oQ rows most 1001).isSome)
            have d1 : decide (((1001 : Nat) : Int) ≤ 1000) = false := by decide
            clear hS hRR hRw hSw hkp hA hbw hmea k4 k5
            go_wp2_with fail
            refine bodyM_of (bodyPost_ret (v := .tuple #[.slice A9 (optL (oQ rows most 1001)).length c9, .bool (oQ rows most 1001).isSome]) (by simp [results, Tryz.results39, go_sem, e4, e5]) rfl ?_)
            exact RSplitsPost.gen HQA.out hBel hrA
end Go.Proofs.YtagghmfhfboejaaGreatDoor
