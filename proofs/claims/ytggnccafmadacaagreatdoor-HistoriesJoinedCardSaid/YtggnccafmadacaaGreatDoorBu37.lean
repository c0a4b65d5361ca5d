/- Texts of this seat, laid together: Mo Pair. -/
import Derived.Handy
import Derived.Test.YtggnccafmadacaaGreatDoorBu33
import Derived.Test.YtggnccafmadacaaGreatDoorBu34
import Derived.Test.YtggnccafmadacaaGreatDoorBu36
import Derived.Test.YtggnccafmadacaaGreatDoorBu26
/- What Merge and Join answer at any two histories, as functions: contracts of the program and of the reference; segment.Text at a wrong history. -/
namespace Go.Proofs.YtggnccafmadacaaGreatDoor
set_option linter.unusedVariables false
set_option linter.unusedSimpArgs false
open Go.RowKit Go.Sort

def mergedL (us bs : List Att) : List Att := (us ++ mgN us bs).mergeSort (fun x y => decide (x.1 ≤ y.1))
theorem merged_one {us bs l : List Att} (hu : us.Pairwise (fun x y => x.1 < y.1)) (hb : bs.Pairwise (fun x y => x.1 < y.1)) (hp : l.Perm (us ++ mgN us bs)) (hs : l.Pairwise (fun x y => x.1 ≤ y.1)) : l = mergedL us bs := by
  have hne : (us ++ mgN us bs).Pairwise (fun x y => x.1 ≠ y.1) := by
    rw [List.pairwise_append]
    refine ⟨hu.imp (fun {a b} h => by omega), (hb.imp (fun {a b} h => by omega)).sublist List.filter_sublist, fun x hx y hy e => ?_⟩
    have h := (List.mem_filter.1 hy).2
    obtain ⟨i, hi, rfl⟩ := List.mem_iff_getElem.1 hx
    rw [noIn_yes ⟨i, hi, e⟩] at h
    simp at h
  have hsort : (mergedL us bs).Pairwise (fun x y => x.1 ≤ y.1) := by
    have h := List.pairwise_mergeSort (le := fun x y : Att => decide (x.1 ≤ y.1)) (fun a b c h1 h2 => by simp at *; omega) (fun a b => by simp; omega) (us ++ mgN us bs)
    exact h.imp (fun {a b} h => by simpa using h)
  have hpm : (mergedL us bs).Perm (us ++ mgN us bs) := List.mergeSort_perm _ _
  have hlt : (mergedL us bs).Pairwise (fun x y => x.1 < y.1) := by
    have h1 : (mergedL us bs).Pairwise (fun x y => x.1 ≠ y.1) := hpm.symm.pairwise hne (fun {x y} h e => h e.symm)
    exact (h1.and hsort).imp (fun {x y} h => by have h1 := h.1; have h2 := h.2; omega)
  exact sorted_one (hp.trans hpm.symm) hs hlt
/-- What Merge answers: the error, the segments, the attempts. -/
def mOut (sa : List (List UInt8)) (us : List Att) (sb : List (List UInt8)) (bs : List Att) : Int × List (List UInt8) × List Att :=
  if firstE [histF sa us, histF sb bs] ≠ 0 then (firstE [histF sa us, histF sb bs], [], []) else if sa = sb ∧ confl us bs = false then (0, sa, mergedL us bs) else (13, [], [])
/-- What Join answers. -/
def jOut (segs : List (List UInt8)) (atts : List Att) (z : List UInt8) : Int × List (List UInt8) × List Att :=
  if histF segs atts ≠ 0 then (histF segs atts, [], []) else if z ∉ segs then (5, [], []) else if segs.idxOf z + 1 = segs.length then (16, [], []) else (0, segs.eraseIdx (segs.idxOf z), joinL (segs.idxOf z) atts)
/-- A history and an error are returned. -/
def HOut (w : World) (lo : Nat) (o : Int × List (List UInt8) × List Att) (e : Ending) (w' : World) : Prop :=
  ∃ (SA TA : Option Addr) (c d : Nat), e = .returned (.tuple #[.agg #[.slice SA o.2.1.length c, .slice TA o.2.2.length d], .int .i64 o.1]) ∧ Hist w' lo SA TA o.2.1 o.2.2 ∧ Below w.heap.size w w'
theorem Hist.nil (w : World) (lo : Nat) (SA TA : Option Addr) : Hist w lo SA TA [] [] := ⟨Row.none_ _ _ _ _, [], Row.none_ _ _ _ _, fun i h => by simp at h⟩
theorem HOut.none_ {w w' : World} {lo : Nat} {o : Int × List (List UInt8) × List Att} {er : Int} (h : o = (er, [], [])) (hb : Below w.heap.size w w') : HOut w lo o (.returned (.tuple #[.agg #[.slice none 0 0, .slice none 0 0], .int .i64 er])) w' := by
  subst h
  exact ⟨none, none, 0, 0, rfl, Hist.nil _ _ _ _, hb⟩
theorem HOut.some_ {w w' : World} {o : Int × List (List UInt8) × List Att} {ss : List (List UInt8)} {l : List Att} {SA TA : Option Addr} {c d lo : Nat} (h : o = (0, ss, l)) (hh : Hist w' lo SA TA ss l) (hb : Below w.heap.size w w') : HOut w lo o (.returned (.tuple #[.agg #[.slice SA ss.length c, .slice TA l.length d], .int .i64 0])) w' := by
  subst h
  exact ⟨SA, TA, c, d, rfl, hh, hb⟩
theorem first2_zero {a b : Int} (h : firstE [a, b] = 0) : a = 0 ∧ b = 0 := by
  rw [firstE_two] at h
  by_cases ha : a = 0
  · rw [if_pos ha] at h; exact ⟨ha, h⟩
  · rw [if_neg ha] at h; exact absurd h ha
theorem Merge_all (SA TA SB TB : Option Addr) (c d c' d' lo lo' : Nat) (sa sb : List (List UInt8)) (us bs : List Att) (w : World) (hA : Hist w lo SA TA sa us) (hB : Hist w lo' SB TB sb bs) (zA : HistSz sa us c) (zB : HistSz sb bs c') (hlen : us.length + bs.length ≤ 500) :
    Calls Tryz.prog 30 #[.agg #[.slice SA sa.length c, .slice TA us.length d], .agg #[.slice SB sb.length c', .slice TB bs.length d']] w (HOut w w.heap.size (mOut sa us sb bs)) := by
  by_cases hf : firstE [histF sa us, histF sb bs] ≠ 0
  · refine (Merge_bad SA TA SB TB c d c' d' lo lo' sa sb us bs w hA hB zA zB (.inl hf)).mono ?_
    rintro e w' ⟨rfl, hb⟩
    exact HOut.none_ (by unfold mOut mergeE; rw [if_pos hf, if_pos hf]) hb
  · have hf0 : firstE [histF sa us, histF sb bs] = 0 := Classical.not_not.1 hf
    obtain ⟨fa, fb⟩ := first2_zero hf0
    have okA := histF_ok fa
    have okB := histF_ok fb
    by_cases hs : sa = sb
    · subst hs
      refine (Merge_two SA TA SB TB c d c' d' lo lo' sa us bs w hA hB zA.hc zB.hc okA okB hlen).mono ?_
      rintro e w' (⟨hc, S2, T2, c2, d2, zs, rfl, ho, hp, hsd, hb⟩ | ⟨hc, rfl, hb⟩)
      · have e1 := merged_one (up_lt okA.up) (up_lt okB.up) hp hsd
        have hh := ho.hist
        rw [e1] at hh
        rw [show zs.length = (mergedL us bs).length by rw [← attE_len, e1]]
        exact HOut.some_ (by unfold mOut; rw [if_neg hf, if_pos ⟨rfl, hc⟩]) hh hb
      · exact HOut.none_ (by unfold mOut; rw [if_neg hf, if_neg (fun h => by rw [hc] at h; cases h.2)]) hb
    · refine (Merge_bad SA TA SB TB c d c' d' lo lo' sa sb us bs w hA hB zA zB (.inr hs)).mono ?_
      rintro e w' ⟨rfl, hb⟩
      exact HOut.none_ (by unfold mOut mergeE; rw [if_neg hf, if_neg hf, if_neg (fun h => hs h.1)]) hb
theorem HistoriesMerged_all (SA TA SB TB : Option Addr) (c d c' d' lo lo' : Nat) (sa sb : List (List UInt8)) (us bs : List Att) (w : World) (hA : Hist w lo SA TA sa us) (hB : Hist w lo' SB TB sb bs) (hf : firstE [histF sa us, histF sb bs] = 0) (hlen : us.length + bs.length ≤ 500) :
    Calls Tryz.prog 31 #[.agg #[.slice SA sa.length c, .slice TA us.length d], .agg #[.slice SB sb.length c', .slice TB bs.length d']] w (HOut w 0 (mOut sa us sb bs)) := by
  obtain ⟨fa, fb⟩ := first2_zero hf
  have okA := histF_ok fa
  have okB := histF_ok fb
  have hf9 : ¬ firstE [histF sa us, histF sb bs] ≠ 0 := fun h => h hf
  refine (HistoriesMerged_two SA TA SB TB c d c' d' lo lo' sa sb us bs w hA hB okA okB hlen).mono ?_
  rintro e w' (⟨hs, hc, S2, T2, c2, d2, l, rfl, hh, hp, hsd, hb⟩ | ⟨hc, rfl, hb⟩)
  · have e1 := merged_one (up_lt okA.up) (up_lt okB.up) hp hsd
    subst e1
    exact HOut.some_ (by unfold mOut; rw [if_neg hf9, if_pos ⟨hs, hc⟩]) hh hb
  · exact HOut.none_ (by unfold mOut; rw [if_neg hf9, if_neg (fun h => by rw [hc h.1] at h; cases h.2)]) hb
theorem idx_none {segs : List (List UInt8)} {z : List UInt8} {r : Int} (h : z ∉ segs) (hr : IdxS segs z r) : r = -1 := by
  rcases hr with ⟨e, _⟩ | ⟨k, hk, _, e, _⟩
  · exact e
  · exact absurd (e ▸ List.getElem_mem hk) h
theorem Join_all (SA TA : Option Addr) (c d lo : Nat) (segs : List (List UInt8)) (atts : List Att) (z : List UInt8) (w : World) (hh : Hist w lo SA TA segs atts) (zA : HistSz segs atts c) :
    Calls Tryz.prog 33 #[.agg #[.slice SA segs.length c, .slice TA atts.length d], encStr z] w (HOut w w.heap.size (jOut segs atts z)) := by
  by_cases hf : histF segs atts ≠ 0
  · refine (Join_bad SA TA c d lo segs atts z (histF segs atts) w hh zA (.inl ⟨hf, rfl⟩)).mono ?_
    rintro e w' ⟨rfl, hb⟩
    exact HOut.none_ (by unfold jOut; rw [if_pos hf]) hb
  · have hf0 : histF segs atts = 0 := Classical.not_not.1 hf
    have ok := histF_ok hf0
    by_cases hz : z ∈ segs
    · have hk := List.idxOf_lt_length_iff.2 hz
      have hg : segs[segs.idxOf z] = z := List.getElem_idxOf hk
      by_cases hl : segs.idxOf z + 1 = segs.length
      · refine (Join_bad SA TA c d lo segs atts z 16 w hh zA (.inr ⟨hf0, fun r hr => .inr ?_⟩)).mono ?_
        · have hr' := idx_nodup (new_nodup ok.new) hk (r := r) (by rw [hg]; exact hr)
          exact ⟨by omega, by omega, rfl⟩
        · rintro e w' ⟨rfl, hb⟩
          exact HOut.none_ (by unfold jOut; rw [if_neg hf, if_neg (fun h => h hz), if_pos hl]) hb
      · have h := Join_ok SA TA c d lo (segs.idxOf z) segs atts w hh zA.hc ok (by omega)
        rw [hg] at h
        refine h.mono ?_
        rintro e w' ⟨S2, T2, c2, d2, zs, rfl, ho, e1, hb, _⟩
        have hh2 := ho.hist
        rw [e1] at hh2
        rw [show zs.length = (joinL (segs.idxOf z) atts).length by rw [← attE_len, e1]]
        exact HOut.some_ (by unfold jOut; rw [if_neg hf, if_neg (fun h => h hz), if_neg hl]) hh2 hb
    · refine (Join_bad SA TA c d lo segs atts z 5 w hh zA (.inr ⟨hf0, fun r hr => .inl ⟨idx_none hz hr, rfl⟩⟩)).mono ?_
      rintro e w' ⟨rfl, hb⟩
      exact HOut.none_ (by unfold jOut; rw [if_neg hf, if_pos hz]) hb
theorem JoinedOf_all (SA TA : Option Addr) (c d lo : Nat) (segs : List (List UInt8)) (atts : List Att) (z : List UInt8) (w : World) (hh : Hist w lo SA TA segs atts) (zA : HistSz segs atts c) (hf0 : histF segs atts = 0) :
    Calls Tryz.prog 34 #[.agg #[.slice SA segs.length c, .slice TA atts.length d], encStr z] w (HOut w 0 (jOut segs atts z)) := by
  have hf : ¬ histF segs atts ≠ 0 := fun h => h hf0
  have ok := histF_ok hf0
  by_cases hz : z ∈ segs
  · have hk := List.idxOf_lt_length_iff.2 hz
    have hg : segs[segs.idxOf z] = z := List.getElem_idxOf hk
    by_cases hl : segs.idxOf z + 1 = segs.length
    · refine (JoinedOf_bad SA TA c d lo segs atts z 16 w hh zA (fun r hr => .inr ?_)).mono ?_
      · have hr' := idx_nodup (new_nodup ok.new) hk (r := r) (by rw [hg]; exact hr)
        exact ⟨by omega, by omega, rfl⟩
      · rintro e w' ⟨rfl, hb⟩
        exact HOut.none_ (by unfold jOut; rw [if_neg hf, if_neg (fun h => h hz), if_pos hl]) hb
    · have h := JoinedOf_ok SA TA c d lo (segs.idxOf z) segs atts w hh zA.hc ok (by omega)
      rw [hg] at h
      refine h.mono ?_
      rintro e w' ⟨S2, T2, c2, d2, zs, rfl, ho, e1, hb, _⟩
      have hh2 := ho.hist
      rw [e1] at hh2
      rw [show zs.length = (joinL (segs.idxOf z) atts).length by rw [← attE_len, e1]]
      exact HOut.some_ (by unfold jOut; rw [if_neg hf, if_neg (fun h => h hz), if_neg hl]) (hh2.weak (Nat.zero_le _)) hb
  · refine (JoinedOf_bad SA TA c d lo segs atts z 5 w hh zA (fun r hr => .inl ⟨idx_none hz hr, rfl⟩)).mono ?_
    rintro e w' ⟨rfl, hb⟩
    exact HOut.none_ (by unfold jOut; rw [if_neg hf, if_pos hz]) hb
set_option maxHeartbeats 1000000 in
theorem Text_bad (SA TA : Option Addr) (c d lo : Nat) (segs : List (List UInt8)) (atts : List Att) (w : World) (hh : Hist w lo SA TA segs atts) (zA : HistSz segs atts c) (hf : histF segs atts ≠ 0) :
    Calls Tryz.prog 35 #[.agg #[.slice SA segs.length c, .slice TA atts.length d]] w fun e w' => e = .returned (.tuple #[encStr [], .int .i64 (histF segs atts)]) ∧ Below w.heap.size w w' := by
  go_enter Tryz.func35, Tryz.ntmps35
  go_wp2_with fail
  have hx : Below w.heap.size w (w.alloc (.cells #[.slice SA segs.length c, .slice TA atts.length d] 56)) := (Below.refl _ _).alloc (Nat.le_refl _) (.cells #[.slice SA segs.length c, .slice TA atts.length d] 56)
  replace hh := hh.alloc (.cells #[.slice SA segs.length c, .slice TA atts.length d] 56)
  generalize w.alloc (.cells #[.slice SA segs.length c, .slice TA atts.length d] 56) = w0 at *
  refine (checkHistory_any SA TA c d _ segs atts _ hh zA.hc zA.h9 zA.h8 zA.h7 zA.h6).mono ?_
  rintro e wz ⟨rfl, hb⟩
  replace hx := below_up hx hb
  obtain ⟨f, hfe⟩ : ∃ x, histF segs atts = x := ⟨_, rfl⟩
  have HFE := Lib.hid hfe
  rw [hfe] at hf ⊢
  clear hfe
  have hd : (f == 0) = false := by simpa using hf
  go_wp2_with fail
  go_returns
  exact ⟨by rw [HFE.out]; rfl, hx⟩
end Go.Proofs.YtggnccafmadacaaGreatDoor
/- Two histories of which the second one's attempts can be written: rows that lie off a block. -/
namespace Go.Proofs.YtggnccafmadacaaGreatDoor
set_option linter.unusedVariables false
set_option linter.unusedSimpArgs false
open Go.RowKit Go.Sort

/-- A row that does not lie in one block. -/
def RowOff (w : World) (lo ab size : Nat) (A : Option Addr) (n : Nat) (xs : List Value) : Prop :=
  Row w lo size A n xs ∧ ∀ b off, 0 < n → A = some ⟨b, off, none⟩ → b ≠ ab
section
variable {w w' : World} {lo ab size n : Nat} {A : Option Addr} {xs : List Value}
theorem RowOff.keep (h : RowOff w lo ab size A n xs) (hs : w.heap.size ≤ w'.heap.size) (hk : ∀ b, lo ≤ b → b < w.heap.size → b ≠ ab → w'.heap[b]? = w.heap[b]?) : RowOff w' lo ab size A n xs := by
  refine ⟨⟨h.1.1, fun hn => ?_⟩, h.2⟩
  obtain ⟨b, off, e, hl, hb, hc⟩ := h.1.2 hn
  exact ⟨b, off, e, hl, Nat.lt_of_lt_of_le hb hs, fun j u hu => (World.cell?_of_block (w := w) (hk b hl hb (h.2 b off hn e))).trans (hc j u hu)⟩
theorem RowOff.below (h : RowOff w lo ab size A n xs) (hb : Below w.heap.size w w') : RowOff w' lo ab size A n xs := h.keep hb.size (fun b _ hl _ => hb.block b hl)
theorem RowOff.stream {g : Nat} (h : RowOff w lo ab size A n xs) (hg : w.grownBy w' (some g)) (hl : g < lo) : RowOff w' lo ab size A n xs := h.keep hg.size (fun b hb hs _ => hg.block b hs (fun e => by injection e with e; omega))
/-- The block itself is written. -/
theorem RowOff.own_ (h : RowOff w lo ab size A n xs) (hg : w.grownBy w' (some ab)) : RowOff w' lo ab size A n xs := h.keep hg.size (fun b _ hs hne => hg.block b hs (fun e => by injection e with e; exact hne e))
theorem rowOff_old {g : Nat} (h : Row w lo size A n xs) (hg : w.grownBy w' (some g)) (hl : g < lo) (ha : w.heap.size ≤ ab) : RowOff w' lo ab size A n xs := by
  refine ⟨h.grown hg hl, fun b off hn e hb => ?_⟩
  obtain ⟨b2, off2, e2, _, hb2, _⟩ := h.2 hn
  rw [e2] at e
  injection e with e
  injection e with e
  omega
theorem rowOff_own {e t : TypeId} {base c : Nat} (h : w.ownsRow base e size (.slice A n c) n xs) (hl : lo ≤ base) (ht : KindOf w (some ab) t) (hne : e ≠ t) : RowOff w lo ab size A n xs := by
  refine ⟨(Row.of_own h).weak hl, fun b off hn ea hb => ?_⟩
  obtain ⟨b2, e2, _, _, _, _⟩ := ownBlk h hn
  rw [e2] at ea
  injection ea with ea
  injection ea with ea
  have hk := own_kindOf h b2 (by rw [e2]; rfl)
  have hk2 := ht b2 (by rw [ea, hb])
  rw [hk] at hk2
  injection hk2 with hk2
  exact hne hk2
theorem rowOff_dj {e : TypeId} {base c : Nat} (h : w.ownsRow base e size (.slice A n c) n xs) (hl : lo ≤ base) (hd : (Value.slice A n c).ownBlock = some ab → False) : RowOff w lo ab size A n xs := by
  refine ⟨(Row.of_own h).weak hl, fun b off hn ea hb => ?_⟩
  obtain ⟨b2, e2, _, _, _, _⟩ := ownBlk h hn
  have e3 := ea
  rw [e2] at e3
  injection e3 with e3
  injection e3 with e3
  exact hd (by rw [e2, e3, hb]; rfl)
theorem rowOff_top (h : Row w lo size A n xs) (ha : w.heap.size ≤ ab) : RowOff w lo ab size A n xs := by
  refine ⟨h, fun b off hn e hb => ?_⟩
  obtain ⟨b2, off2, e2, _, hb2, _⟩ := h.2 hn
  rw [e2] at e
  injection e with e
  injection e with e
  omega
/-- A box of slices is written: no row of other cells lies there. -/
theorem RowOff.box (h : RowOff w lo ab size A n xs) {g : Nat} {t : TypeId} {A1 A2 : Option Addr} {n1 n2 c1 c2 : Nat} (hg : Blk w g t #[.slice A1 n1 c1, .slice A2 n2 c2]) (hv : 0 < n → ∃ v, xs[0]? = some v ∧ ∀ A n c, v ≠ .slice A n c) (i : Nat) (u : Value) : RowOff (w.setCell ⟨g, i, none⟩ u) lo ab size A n xs := by
  refine ⟨⟨h.1.1, fun hn => ?_⟩, h.2⟩
  obtain ⟨b, off, e, hl, hb, hc⟩ := h.1.2 hn
  obtain ⟨v, hv0, hvn⟩ := hv hn
  have hbg : b ≠ g := fun e2 => by
    subst e2
    have h0 := hc 0 v hv0
    rw [hg.cell] at h0
    rcases (show off + 0 = 0 ∨ off + 0 = 1 ∨ 2 ≤ off + 0 by omega) with h1 | h1 | h1
    · rw [h1] at h0
      have : Value.slice A1 n1 c1 = v := by simpa using h0
      exact hvn _ _ _ this.symm
    · rw [h1] at h0
      have : Value.slice A2 n2 c2 = v := by simpa using h0
      exact hvn _ _ _ this.symm
    · rw [Array.getElem?_eq_none (by simpa using h1)] at h0
      cases h0
  exact ⟨b, off, e, hl, by simpa [World.setCell] using hb, fun j u' hu => (World.cell?_of_block (w := w) (Below.heap_setCell w ⟨g, i, none⟩ u b hbg)).trans (hc j u' hu)⟩
end
theorem strs_head {ss : List (List UInt8)} (h : 0 < ss.length) : ∃ v, (strs ss)[0]? = some v ∧ ∀ A n c, v ≠ .slice A n c := by
  cases ss with
  | nil => simp at h
  | cons a l => exact ⟨_, rfl, fun A n c e => by cases e⟩
theorem ints_head {l : List Int} (h : 0 < l.length) : ∃ v, (ints l)[0]? = some v ∧ ∀ A n c, v ≠ .slice A n c := by
  cases l with
  | nil => simp at h
  | cons a l => exact ⟨_, rfl, fun A n c e => by cases e⟩
theorem encE_head {zs : List AttE} (h : 0 < zs.length) : ∃ v, (zs.flatMap encE)[0]? = some v ∧ ∀ A n c, v ≠ .slice A n c := by
  cases zs with
  | nil => simp at h
  | cons a l => exact ⟨_, rfl, fun A n c e => by cases e⟩
/-- Two histories; the second one's row of attempts lies in a block of its own. -/
structure Pair (w : World) (lo ab : Nat) (SA TA : Option Addr) (sa : List (List UInt8)) (zs : List AttE) (SB TB : Option Addr) (d : Nat) (sb : List (List UInt8)) (ys : List AttE) : Prop where
  sa : RowOff w lo ab 1 SA sa.length (strs sa)
  ta : RowOff w lo ab 2 TA zs.length (zs.flatMap encE)
  sb : RowOff w lo ab 1 SB sb.length (strs sb)
  xs : ∀ x ∈ zs ++ ys, RowOff w lo ab 1 x.2.1 x.1.2.length (ints x.1.2)
  tb : w.ownsRow lo 62 2 (.slice TB ys.length d) ys.length (ys.flatMap encE)
  hab : 0 < ys.length → TB = some ⟨ab, 0, none⟩
section
variable {w w' : World} {lo ab d : Nat} {SA TA SB TB : Option Addr} {sa sb : List (List UInt8)} {zs ys : List AttE}
theorem Pair.below (h : Pair w lo ab SA TA sa zs SB TB d sb ys) (hb : Below w.heap.size w w') : Pair w' lo ab SA TA sa zs SB TB d sb ys :=
  ⟨h.sa.below hb, h.ta.below hb, h.sb.below hb, fun x hx => (h.xs x hx).below hb, own_keep h.tb hb, h.hab⟩
theorem Pair.alloc (h : Pair w lo ab SA TA sa zs SB TB d sb ys) (o : Obj) : Pair (w.alloc o) lo ab SA TA sa zs SB TB d sb ys := h.below ((Below.refl _ _).alloc (Nat.le_refl _) o)
theorem Pair.stream {g : Nat} (h : Pair w lo ab SA TA sa zs SB TB d sb ys) (hg : w.grownBy w' (some g)) (hl : g < lo) : Pair w' lo ab SA TA sa zs SB TB d sb ys :=
  ⟨h.sa.stream hg hl, h.ta.stream hg hl, h.sb.stream hg hl, fun x hx => (h.xs x hx).stream hg hl, own_grown h.tb hg hl, h.hab⟩
theorem Pair.box (h : Pair w lo ab SA TA sa zs SB TB d sb ys) {g : Nat} {A1 A2 : Option Addr} {n1 n2 c1 c2 : Nat} (hg : Blk w g 56 #[.slice A1 n1 c1, .slice A2 n2 c2]) (i : Nat) (u : Value) : Pair (w.setCell ⟨g, i, none⟩ u) lo ab SA TA sa zs SB TB d sb ys :=
  ⟨h.sa.box hg strs_head i u, h.ta.box hg encE_head i u, h.sb.box hg strs_head i u, fun x hx => (h.xs x hx).box hg ints_head i u, own_past h.tb hg (by decide) i u, h.hab⟩
/-- A whole box of slices is written. -/
theorem Pair.box2 (h : Pair w lo ab SA TA sa zs SB TB d sb ys) {g : Nat} {A1 A2 B1 B2 : Option Addr} {n1 n2 c1 c2 m1 m2 e1 e2 : Nat} (hg : Blk w g 56 #[.slice A1 n1 c1, .slice A2 n2 c2]) :
    Pair ((w.setCell ⟨g, 0, none⟩ (.slice B1 m1 e1)).setCell ⟨g, 1, none⟩ (.slice B2 m2 e2)) lo ab SA TA sa zs SB TB d sb ys := by
  have k1 : Blk (w.setCell ⟨g, 0, none⟩ (.slice B1 m1 e1)) g 56 #[.slice B1 m1 e1, .slice A2 n2 c2] := by simpa using hg.poke 0 (.slice B1 m1 e1)
  exact (h.box hg 0 _).box k1 1 _
theorem Pair.histA (h : Pair w lo ab SA TA sa zs SB TB d sb ys) : Hist w lo SA TA sa (attE zs) := hist_row h.sa.1 h.ta.1 (fun x hx => (h.xs x (by simp [hx])).1)
theorem Pair.histB (h : Pair w lo ab SA TA sa zs SB TB d sb ys) : Hist w lo SB TB sb (attE ys) := hist_row h.sb.1 ((Row.of_own h.tb).weak (Nat.le_refl _)) (fun x hx => (h.xs x (by simp [hx])).1)
/-- The first attempt's splits are others now. -/
theorem Pair.spoil (h : Pair w lo ab SA TA sa zs SB TB d sb ys) (hy : 0 < ys.length) (l : List Int) {B : Option Addr} {c : Nat} (hB : RowOff w lo ab 1 B l.length (ints l)) :
    ∃ bs, bs.length = ys.length ∧ (∀ i (h1 : i < bs.length), bs[i].2 = l ∨ ∃ j, ∃ h2 : j < (attE ys).length, bs[i] = (attE ys)[j]) ∧ Hist (w.setCell ⟨ab, 1, none⟩ (.slice B l.length c)) lo SA TA sa (attE zs) ∧ Hist (w.setCell ⟨ab, 1, none⟩ (.slice B l.length c)) lo SB TB sb bs := by
  have hg := grown_pokeOf w ab 1 (.slice B l.length c)
  cases ys with
  | nil => simp at hy
  | cons y ys =>
    have e := h.hab hy
    have hst : (w.setCell ⟨ab, 1, none⟩ (.slice B l.length c)).ownsRow lo 62 2 (.slice TB (y :: ys).length d) (y :: ys).length (((y :: ys).flatMap encE).set 1 (.slice B l.length c)) := by
      have h0 := h.tb
      rw [e] at h0 ⊢
      exact (h0.stored 1 (.slice B l.length c)).1
    let y' : AttE := ((y.1.1, l), (B, c))
    have ef : ((y :: ys).flatMap encE).set 1 (.slice B l.length c) = (y' :: ys).flatMap encE := by simp [encE, y']
    rw [ef] at hst
    have hr : Row (w.setCell ⟨ab, 1, none⟩ (.slice B l.length c)) lo 2 TB (y' :: ys).length ((y' :: ys).flatMap encE) := by
      have := Row.of_own hst
      simpa using this
    refine ⟨attE (y' :: ys), by simp [attE], ?_, hist_row (h.sa.own_ hg).1 (h.ta.own_ hg).1 (fun x hx => ((h.xs x (by simp [hx])).own_ hg).1), hist_row (h.sb.own_ hg).1 hr (fun x hx => ?_)⟩
    · intro i h1
      cases i with
      | zero => exact .inl rfl
      | succ i => exact .inr ⟨i + 1, by simpa [attE] using h1, by simp [attE]⟩
    · rcases List.mem_cons.1 hx with rfl | hx
      · exact (hB.own_ hg).1
      · exact ((h.xs x (by simp [hx])).own_ hg).1
end
theorem own_zs {w : World} {base d : Nat} {TA : Option Addr} {atts : List Att} {cs : List Value} (ho : w.ownsRow base 62 2 (.slice TA atts.length d) atts.length cs) (h3 : AttsC w base atts cs) :
    ∃ zs : List AttE, attE zs = atts ∧ w.ownsRow base 62 2 (.slice TA zs.length d) zs.length (zs.flatMap encE) ∧ ∀ x ∈ zs, w.ownsRow base 3 1 (.slice x.2.1 x.1.2.length x.2.2) x.1.2.length (ints x.1.2) := by
  have hB : ∀ i : Fin atts.length, ∃ Bc : Option Addr × Nat, cs[i.1 * 2]? = some (.int .i64 atts[i.1].1) ∧ cs[i.1 * 2 + 1]? = some (.slice Bc.1 atts[i.1].2.length Bc.2) ∧ w.ownsRow base 3 1 (.slice Bc.1 atts[i.1].2.length Bc.2) atts[i.1].2.length (ints atts[i.1].2) := fun i => by
    obtain ⟨B, c, a, b, d⟩ := h3.2 i.1 i.2
    exact ⟨(B, c), a, b, d⟩
  let g : Fin atts.length → AttE := fun i => (atts[i.1], Classical.choose (hB i))
  have hg : ∀ i, cs[i.1 * 2]? = some (.int .i64 atts[i.1].1) ∧ cs[i.1 * 2 + 1]? = some (.slice (g i).2.1 atts[i.1].2.length (g i).2.2) ∧ w.ownsRow base 3 1 (.slice (g i).2.1 atts[i.1].2.length (g i).2.2) atts[i.1].2.length (ints atts[i.1].2) := fun i => Classical.choose_spec (hB i)
  have hl : (List.ofFn g).length = atts.length := by simp
  have ha : attE (List.ofFn g) = atts := by
    apply List.ext_getElem (by simp [attE])
    intro i h1 h2
    simp [attE, g]
  refine ⟨List.ofFn g, ha, ?_, fun x hx => ?_⟩
  · rw [← flat_ext cs (List.ofFn g) (by rw [hl]; exact h3.1) (fun i hi => by
      have hi' : i < atts.length := by rw [hl] at hi; exact hi
      have := hg ⟨i, hi'⟩
      simp only [List.getElem_ofFn]
      exact ⟨this.1, this.2.1⟩), hl]
    exact ho
  · obtain ⟨i, rfl⟩ := List.mem_ofFn.1 hx
    exact (hg i).2.2
/-- A history that is there, and one that is drawn. -/
theorem pair_two {w0 w : World} {lo g c d : Nat} {SA TA SB TB : Option Addr} {sa sb : List (List UInt8)} {us bs : List Att} (hA : Hist w0 lo SA TA sa us) (hB : OwnH w w0.heap.size SB c TB d sb bs) (hg : w0.grownBy w (some g)) (hl : g < lo) (h0 : lo ≤ w0.heap.size) :
    ∃ ab zs ys, attE zs = us ∧ attE ys = bs ∧ Pair w lo ab SA TA sa zs SB TB d sb ys := by
  obtain ⟨zs, ez, hz, hrz, hsz⟩ := hist_zs hA
  obtain ⟨h1, cs, h2, h3⟩ := hB
  obtain ⟨ys, ey, hry, hsy⟩ := own_zs h2 h3
  by_cases hy : 0 < ys.length
  · obtain ⟨ab, e, hab, habz, _, _⟩ := ownBlk hry hy
    have hk : KindOf w (some ab) 62 := fun b hb => own_kindOf hry b (by rw [e]; exact hb)
    refine ⟨ab, zs, ys, ez, ey, rowOff_old hA.1 hg hl hab, rowOff_old hrz hg hl hab, rowOff_own h1 h0 hk (by decide), fun x hx => ?_, own_weak hry h0, fun _ => e⟩
    rcases List.mem_append.1 hx with hx | hx
    · exact rowOff_old (hsz x hx) hg hl hab
    · exact rowOff_own (hsy x hx) h0 hk (by decide)
  · refine ⟨w.heap.size, zs, ys, ez, ey, rowOff_old hA.1 hg hl hg.size, rowOff_old hrz hg hl hg.size, rowOff_top ((Row.of_own h1).weak h0) (Nat.le_refl _), fun x hx => ?_, own_weak hry h0, fun h => absurd h hy⟩
    rcases List.mem_append.1 hx with hx | hx
    · exact rowOff_old (hsz x hx) hg hl hg.size
    · exact rowOff_top ((Row.of_own (hsy x hx)).weak h0) (Nat.le_refl _)
/-- Two halves of one. -/
theorem pair_half {w0 w : World} {lo g c1 c2 d1 d2 : Nat} {SA TA SB TB : Option Addr} {sa : List (List UInt8)} {zs ys : List AttE} (h1 : w.ownsRow w0.heap.size 9 1 (.slice SA sa.length c1) sa.length (strs sa)) (h2 : w.ownsRow w0.heap.size 9 1 (.slice SB sa.length c2) sa.length (strs sa))
    (h3 : w.ownsRow w0.heap.size 62 2 (.slice TA zs.length d1) zs.length (zs.flatMap encE)) (h4 : w.ownsRow w0.heap.size 62 2 (.slice TB ys.length d2) ys.length (ys.flatMap encE))
    (hd : ∀ k, (Value.slice TA zs.length d1).ownBlock = some k → (Value.slice TB ys.length d2).ownBlock = some k → False) (hx : ∀ x ∈ zs ++ ys, Row w0 lo 1 x.2.1 x.1.2.length (ints x.1.2)) (hg : w0.grownBy w (some g)) (hl : g < lo) (h0 : lo ≤ w0.heap.size) :
    ∃ ab, Pair w lo ab SA TA sa zs SB TB d2 sa ys := by
  by_cases hy : 0 < ys.length
  · obtain ⟨ab, e, hab, habz, _, _⟩ := ownBlk h4 hy
    have hk : KindOf w (some ab) 62 := fun b hb => own_kindOf h4 b (by rw [e]; exact hb)
    exact ⟨ab, rowOff_own h1 h0 hk (by decide), rowOff_dj h3 h0 (fun h => hd ab h (by rw [e]; rfl)), rowOff_own h2 h0 hk (by decide), fun x h => rowOff_old (hx x h) hg hl hab, own_weak h4 h0, fun _ => e⟩
  · exact ⟨w.heap.size, rowOff_top ((Row.of_own h1).weak h0) (Nat.le_refl _), rowOff_top ((Row.of_own h3).weak h0) (Nat.le_refl _), rowOff_top ((Row.of_own h2).weak h0) (Nat.le_refl _), fun x h => rowOff_old (hx x h) hg hl hg.size, own_weak h4 h0, fun h => absurd h hy⟩
end Go.Proofs.YtggnccafmadacaaGreatDoor
