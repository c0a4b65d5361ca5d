/- Texts of this seat, laid together: Wd Ln EaM Ch. -/
import Derived.Handy
import Derived.Test.YtijdbbnnkogkjaaGreatDoorBn20
import Derived.Test.YtijdbbnnkogkjaaGreatDoorBn18
import Derived.Test.YtijdbbnnkogkjaaGreatDoorBn04
import Derived.Test.YtijdbbnnkogkjaaGreatDoorBn12
import Derived.Test.YtijdbbnnkogkjaaGreatDoorBn01
/- Words and lines: the walks of strings.Split at one byte, base.Words, base.Lines. -/
namespace Go.Proofs.YtijdbbnnkogkjaaGreatDoor
set_option linter.unusedVariables false
set_option linter.unusedSimpArgs false
open Go.RowKit Go.Sort

theorem split_any (c : UInt8) (s : List UInt8) (w : World) (hs : s.length ≤ 1000000000) (hE : Env w) :
  Calls Tryz.prog 76 #[encStr s,.string ⟨#[c]⟩] w fun e w' => ∃ b,e = .returned (.slice (some ⟨b,0,none⟩) (cutAt c s).length (cutAt c s).length) ∧ w.heap.size ≤ b ∧ Blk w' b 9 (strs (cutAt c s)).toArray ∧ Below w.heap.size w w':=by
 obtain ⟨m,hm⟩:=hE.2
 refine (Tryz.strings_Split ⟨s.toArray⟩ ⟨#[c]⟩ m w (by show s.toArray.size < _; rw [List.size_toArray]; omega) hm (Nat.le_refl _)).mono ?_
 rintro e w' ⟨rfl,rfl⟩
 have hn : Lib.countB ⟨s.toArray⟩ ⟨#[c]⟩ + 1 = (cutAt c s).length:=by rw [cutAt_len]; exact congrArg (· + 1) (count_one c s)
 rw [hn]
 refine ⟨_,rfl,Nat.le_refl _,?_,(Below.refl _ _).alloc (Nat.le_refl _) _⟩
 rw [splitB_cells]
 exact Blk.new _ _ _
theorem Blk.strRow {w : World} {b lo : Nat} {ss : List (List UInt8)} (h : Blk w b 9 (strs ss).toArray) (hb : lo ≤ b) : Row w lo 1 (some ⟨b,0,none⟩) ss.length (strs ss):=by
 have:=Row.lit (n:=ss.length) (size:=1) (lo:=lo) h hb (by rw [List.size_toArray,strs_len,Nat.mul_one])
 rwa [List.toList_toArray] at this

def fullW (ws : List (List UInt8)) : Bool:=ws.all fun x => !x.isEmpty
def wordsB (s : List UInt8) (n : Nat) : Bool:=decide ((cutAt 32 s).length = n) && fullW (cutAt 32 s)
def WordsPost (w : World) (s : List UInt8) (n : Nat) (e : Ending) (w' : World) : Prop :=
 (wordsB s n = true ∧ ∃ b,e = .returned (.tuple #[.slice (some ⟨b,0,none⟩) (cutAt 32 s).length (cutAt 32 s).length,.bool true]) ∧ w.heap.size ≤ b ∧ Blk w' b 9 (strs (cutAt 32 s)).toArray ∧ Below w.heap.size w w') ∨
 (wordsB s n = false ∧ e = .returned (.tuple #[.slice none 0 0,.bool false]) ∧ Below w.heap.size w w')
theorem fullW_no {ws : List (List UInt8)} {k : Nat} (hk : k < ws.length) (h : ws[k] = []) : fullW ws = false:=by
 rw [fullW,List.all_eq_false]
 exact ⟨ws[k],List.getElem_mem _,by rw [h]; decide⟩
theorem fullW_yes {ws : List (List UInt8)} (h : ∀ k (hk : k < ws.length),ws[k] ≠ []) : fullW ws = true:=by
 rw [fullW,List.all_eq_true]
 intro x hx
 obtain ⟨k,hk,rfl⟩:=List.mem_iff_getElem.1 hx
 have:=h k hk
 cases hq : ws[k] with
 | nil => exact absurd hq this
 | cons a b => rfl
theorem str_nil_eq {x : List UInt8} (h : x = []) : x.isEmpty = true:=by rw [h]; rfl
theorem str_nil_ne {x : List UInt8} (h : x ≠ []) : x.isEmpty = false:=by cases x <;> simp_all
set_option maxHeartbeats 2000000 in
set_option maxRecDepth 100000 in
theorem words_any (s : List UInt8) (n : Nat) (w : World) (hs : s.length ≤ 1000000000) (hn : n ≤ 2000000000) (hE : Env w) :
    Calls Tryz.prog 117 #[encStr s, .int .i64 n] w (WordsPost w s n) := by
  have hl := cutAt_len 32 s
  have hc := List.count_le_length (a := (32 : UInt8)) (l := s)
  have hb9 : (cutAt 32 s).length ≤ 1000000001 := by omega
  have HS : Hid (∀ b w', w.heap.size ≤ b → Blk w' b 9 (strs (cutAt 32 s)).toArray → Below w.heap.size w w' → (cutAt 32 s).length = n → fullW (cutAt 32 s) = true → WordsPost w s n (.returned (.tuple #[.slice (some ⟨b, 0, none⟩) (cutAt 32 s).length (cutAt 32 s).length, .bool true])) w') :=
    Lib.hid (fun b w' h0 h1 h2 h3 h4 => .inl ⟨by unfold wordsB; rw [decide_eq_true h3, h4]; rfl, b, rfl, h0, h1, h2⟩)
  have HF : Hid (∀ w', Below w.heap.size w w' → ((cutAt 32 s).length ≠ n ∨ fullW (cutAt 32 s) = false) → WordsPost w s n (.returned (.tuple #[.slice none 0 0, .bool false])) w') :=
    Lib.hid (fun w' h2 h3 => .inr ⟨by unfold wordsB; rcases h3 with h3 | h3; · rw [decide_eq_false h3]; rfl
                                      · rw [h3, Bool.and_false], rfl, h2⟩)
  clear hl hc
  generalize hP : WordsPost w s n = Post at *
  clear hP
  go_enter Tryz.func117, Tryz.ntmps117
  go_wp2_with fail
  refine (split_any 32 s _ hs hE).mono ?_
  rintro e w1 ⟨bz, rfl, hbz, hkz, hb⟩
  have hr := hkz.strRow hbz
  generalize cutAt 32 s = ws at *
  by_cases hn2 : ws.length = n
  · have d1 : ((ws.length : Int) != (n : Int)) = false := by simp; omega
    have HN := Lib.hid hn2
    clear hn2
    go_wp2_with fail
    go_loop [17] (fun i => ∃ k : Nat, k ≤ ws.length ∧ i = .int .i64 k ∧ Hid (∀ j (hj : j < ws.length), j < k → ws[j] ≠ [])) (fun i => ws.length - (intOf i).toNat)
    case atStart => exact ⟨0, Nat.zero_le _, rfl, Lib.hid (fun _ _ h => absurd h (Nat.not_lt_zero _))⟩
    case round =>
      obtain ⟨k, hk, rfl, HA⟩ := hrel
      by_cases hlt : k < ws.length
      · obtain ⟨b, off, hae, hlo, hbs, hcell⟩ := hr.str_at hlt
        injection hae with hae
        injection hae with hae1 hae2
        subst hae1 hae2
        rw [Nat.zero_add] at hcell
        by_cases he : ws[k] = []
        · have e1 := str_nil_eq he
          have HB := Lib.hid (fullW_no hlt he)
          clear he
          generalize ws[k] = x at *
          unfold encStr at hcell
          go_wp2_with fail
          exact HF.out _ hb (.inr HB.out)
        · have e1 := str_nil_ne he
          have HA' : Hid (∀ j (hj : j < ws.length), j < k + 1 → ws[j] ≠ []) := Lib.hid (fun j hj hjk => by
            rcases Nat.lt_or_ge j k with h | h
            · exact HA.out j hj h
            · have : j = k := by omega
              subst this; exact he)
          clear he
          generalize ws[k] = x at *
          unfold encStr at hcell
          go_wp2_with fail
          go_round
          case rel => exact ⟨k + 1, by omega, by go_num, HA'⟩
          case measure => simp [intOf]; omega
      · have HB := Lib.hid (fullW_yes (fun j hj => HA.out j hj (by omega)))
        go_wp2_with fail
        exact HS.out _ _ hbz hkz hb HN.out HB.out
  · have d1 : ((ws.length : Int) != (n : Int)) = true := by simp; omega
    have HN := Lib.hid hn2
    clear hn2
    go_wp2_with fail
    exact HF.out _ hb (.inl HN.out)

def endsB (s : List UInt8) : Bool:=s.isEmpty || Lib.hasSuffix s [10]
def linesL (s : List UInt8) : List (List UInt8):=if s.isEmpty then [] else cutAt 10 (Lib.trimSuffix s [10])
theorem linesL_le (s : List UInt8) : (linesL s).length ≤ s.length + 1 ∧ ∀ x ∈ linesL s,x.length ≤ s.length:=by
 have hts : (Lib.trimSuffix s [10]).length ≤ s.length:=by unfold Lib.trimSuffix; split <;> simp
 unfold linesL
 split
 ·simp
 ·refine ⟨?_,fun x hx => Nat.le_trans (cutAt_sum 10 _ x hx) hts⟩
  rw [cutAt_len]
  have:=List.count_le_length (a:=(10 : UInt8)) (l:=Lib.trimSuffix s [10])
  omega
def LinesPost (w : World) (s : List UInt8) (e : Ending) (w' : World) : Prop :=
 ∃ A c,e = .returned (.tuple #[.slice A (linesL s).length c,.bool (endsB s)]) ∧ Row w' w.heap.size 1 A (linesL s).length (strs (linesL s)) ∧ Below w.heap.size w w'
set_option maxHeartbeats 1000000 in
set_option maxRecDepth 100000 in
theorem lines_any (s : List UInt8) (w : World) (hs : s.length ≤ 1000000000) (hE : Env w) :
  Calls Tryz.prog 116 #[encStr s] w (LinesPost w s):=by
 by_cases h0 : s = []
 ·subst h0
  go_enter Tryz.func116,Tryz.ntmps116
  go_wp2_with fail
  go_returns
  exact ⟨none,0,rfl,Row.none_ _ _ _ _,Below.refl _ _⟩
 ·have e1:=str_nil_ne h0
  have hts : (Lib.trimSuffix s [10]).length ≤ s.length:=by unfold Lib.trimSuffix; split <;> simp
  have hi : s.isEmpty = false:=by cases s <;> simp_all
  have HP : Hid (∀ A w',Row w' w.heap.size 1 A (cutAt 10 (Lib.trimSuffix s [10])).length (strs (cutAt 10 (Lib.trimSuffix s [10]))) → Below w.heap.size w w' → LinesPost w s (.returned (.tuple #[.slice A (cutAt 10 (Lib.trimSuffix s [10])).length (cutAt 10 (Lib.trimSuffix s [10])).length,.bool (Lib.hasSuffix s [10])])) w') :=
   Lib.hid (fun A w' h1 h2 => ⟨A,(cutAt 10 (Lib.trimSuffix s [10])).length,by unfold linesL endsB; rw [hi]; rfl,by unfold linesL; rw [hi]; exact h1,h2⟩)
  clear h0 hi
  generalize hP : LinesPost w s = Post at *
  clear hP
  go_enter Tryz.func116,Tryz.ntmps116
  go_wp2_with fail
  refine (Tryz.strings_CutSuffix ⟨s.toArray⟩ ⟨#[10]⟩ _ (by show s.toArray.size ≤ _; rw [List.size_toArray]; omega)).mono ?_
  rintro e w1 ⟨rfl,rfl⟩
  go_wp2_with fail
  refine (split_any 10 (Lib.trimSuffix s [10]) _ (by omega) hE).mono ?_
  rintro e w1 ⟨bz,rfl,hbz,hkz,hb⟩
  have hr:=hkz.strRow hbz
  go_wp2_with fail
  exact HP.out _ _ hr hb
end Go.Proofs.YtijdbbnnkogkjaaGreatDoor
/- Plain laws on lines; what stays but for some boxes. -/
namespace Go.Proofs.YtijdbbnnkogkjaaGreatDoor
set_option linter.unusedVariables false
set_option linter.unusedSimpArgs false
open Go.RowKit Go.Sort

theorem hasSuffix_nl (s : List UInt8) : Lib.hasSuffix s [10] = decide (s.getLast? = some 10):=by
 rcases List.eq_nil_or_concat s with rfl | ⟨a,b,rfl⟩
 ·rfl
 ·rw [List.concat_eq_append]
  unfold Lib.hasSuffix List.isSuffixOf
  rw [List.reverse_append,List.getLast?_append]
  simp only [List.reverse_cons,List.reverse_nil,List.nil_append,List.cons_append,List.isPrefixOf,Bool.and_true,List.getLast?_singleton,Option.some_or]
  rw [Bool.eq_iff_iff]
  simp only [beq_iff_eq,decide_eq_true_eq,Option.some.injEq]
  exact eq_comm
theorem endsB_eq (s : List UInt8) : endsB s = (s.isEmpty || decide (s.getLast? = some 10)):=by unfold endsB; rw [hasSuffix_nl]
theorem trimNl_yes (a : List UInt8) : Lib.trimSuffix (a ++ [10]) [10] = a:=by
 unfold Lib.trimSuffix
 rw [hasSuffix_nl,if_pos (by simp)]
 simp
theorem trimNl_no {s : List UInt8} (h : s.getLast? ≠ some 10) : Lib.trimSuffix s [10] = s:=by
 unfold Lib.trimSuffix
 rw [hasSuffix_nl,if_neg (by simpa using h)]
theorem lines_cons (a r : List UInt8) (h : (10 : UInt8) ∉ a) : linesL (a ++ 10 :: r) = a :: linesL r ∧ endsB (a ++ 10 :: r) = endsB r:=by
 have hne : (a ++ 10 :: r).isEmpty = false:=by cases a <;> rfl
 rcases List.eq_nil_or_concat r with rfl | ⟨q,b,rfl⟩
 ·constructor
  ·unfold linesL
   rw [hne,if_neg (by decide),trimNl_yes a,cutAt_none 10 a h]; rfl
  ·rw [endsB_eq,endsB_eq]; simp
 ·rw [List.concat_eq_append] at *
  have hr : (q ++ [b]).isEmpty = false:=by cases q <;> rfl
  have hl : (a ++ 10 :: (q ++ [b])).getLast? = some b:=by
   rw [show a ++ 10 :: (q ++ [b]) = (a ++ 10 :: q) ++ [b] by simp,List.getLast?_append]; rfl
  have hl2 : (q ++ [b]).getLast? = some b:=by rw [List.getLast?_append]; rfl
  constructor
  ·unfold linesL
   rw [hne,hr,if_neg (by decide),if_neg (by decide)]
   by_cases hb : b = 10
   ·subst hb
    rw [show a ++ 10 :: (q ++ [10]) = (a ++ 10 :: q) ++ [10] by simp,trimNl_yes,trimNl_yes,cutAt_first 10 a q h]
   ·rw [trimNl_no (by rw [hl]; simpa using hb),trimNl_no (by rw [hl2]; simpa using hb),cutAt_first 10 a _ h]
  ·rw [endsB_eq,endsB_eq,hl,hl2,hne,hr]
theorem lines_last (u : List UInt8) (h : (10 : UInt8) ∉ u) (hne : u ≠ []) : linesL u = [u] ∧ endsB u = false:=by
 have hi : u.isEmpty = false:=by cases u <;> simp_all
 have hl : u.getLast? ≠ some 10:=fun e => h (List.mem_of_getLast? e)
 constructor
 ·unfold linesL
  rw [hi,if_neg (by decide),trimNl_no hl,cutAt_none 10 u h]
 ·rw [endsB_eq,hi,decide_eq_false hl]; rfl
theorem linesL_nil : linesL [] = []:=rfl
theorem linesL_ne {u : List UInt8} (h : u ≠ []) : linesL u ≠ []:=by
 rcases split_first 10 u with hn | ⟨a,l,rfl,hn⟩
 ·rw [(lines_last u hn h).1]; simp
 ·rw [(lines_cons a l hn).1]; simp
structure RestL (t : List UInt8) (k : Nat) (u : List UInt8) : Prop where
  le : k ≤ (linesL t).length
  ls : linesL u = (linesL t).drop k
  en : endsB u = endsB t
theorem RestL.start (t : List UInt8) : RestL t 0 t:=⟨Nat.zero_le _,rfl,rfl⟩
def badL (t : List UInt8) (ok : Nat → Bool) (k : Nat) : Bool:=(!endsB t && decide (k + 1 = (linesL t).length)) || !ok k
theorem RestL.next {t : List UInt8} {k : Nat} {a r : List UInt8} (h : RestL t k (a ++ 10 :: r)) (ha : (10 : UInt8) ∉ a) (ok : Nat → Bool) : ∃ hk : k < (linesL t).length,(linesL t)[k] = a ∧ RestL t (k + 1) r ∧ badL t ok k = !ok k:=by
 obtain ⟨e1,e2⟩:=lines_cons a r ha
 have hd:=h.ls
 rw [e1] at hd
 have hk : k < (linesL t).length:=by
  rcases Nat.lt_or_ge k (linesL t).length with h' | h'
  ·exact h'
  ·rw [List.drop_eq_nil_of_le h'] at hd; cases hd
 rw [List.drop_eq_getElem_cons hk] at hd
 injection hd with h1 h2
 refine ⟨hk,h1.symm,⟨hk,h2,by rw [← h.en,e2]⟩,?_⟩
 unfold badL
 have : (!endsB t && decide (k + 1 = (linesL t).length)) = false:=by
  cases he : endsB t
  ·have hr : r ≠ []:=by
    rintro rfl
    rw [← h.en,e2] at he; cases he
   have h3:=linesL_ne hr
   rw [h2] at h3
   have : k + 1 < (linesL t).length:=by
    rcases Nat.lt_or_ge (k + 1) (linesL t).length with h' | h'
    ·exact h'
    ·rw [List.drop_eq_nil_of_le h'] at h3; exact absurd rfl h3
   rw [decide_eq_false (by omega)]; rfl
  ·rfl
 rw [this,Bool.false_or]
theorem RestL.last {t : List UInt8} {k : Nat} {u : List UInt8} (h : RestL t k u) (hu : (10 : UInt8) ∉ u) (hne : u ≠ []) (ok : Nat → Bool) : k < (linesL t).length ∧ badL t ok k = true:=by
 obtain ⟨e1,e2⟩:=lines_last u hu hne
 have hd:=h.ls
 rw [e1] at hd
 have hl:=congrArg List.length hd
 simp only [List.length_cons,List.length_nil,List.length_drop] at hl
 refine ⟨by omega,?_⟩
 unfold badL
 rw [← h.en,e2,decide_eq_true (by omega)]; rfl
theorem RestL.nil {t : List UInt8} {k : Nat} (h : RestL t k []) : k = (linesL t).length:=by
 have:=congrArg List.length h.ls
 rw [linesL_nil,List.length_drop] at this
 have:=h.le
 simp at *; omega
def stopL (t : List UInt8) (ok : Nat → Bool) : Option Nat:=(List.range (linesL t).length).find? (badL t ok)
theorem stopL_at {t : List UInt8} {ok : Nat → Bool} {k : Nat} (hk : k < (linesL t).length) (h : badL t ok k = true) (hb : ∀ j,j < k → badL t ok j = false) : stopL t ok = some k:=by
 unfold stopL
 have e : List.range (linesL t).length = List.range k ++ (List.range ((linesL t).length - k)).map (k + ·):=by
  rw [← List.range_add]; congr 1; omega
 rw [e,List.find?_append]
 have h1 : (List.range k).find? (badL t ok) = none:=by
  rw [List.find?_eq_none]
  intro x hx
  rw [hb x (by simpa using hx)]; decide
 obtain ⟨m,hm⟩ : ∃ m,(linesL t).length - k = m + 1:=⟨(linesL t).length - k - 1,by omega⟩
 rw [h1,hm,List.range_succ_eq_map]
 simp [h]
theorem stopL_none {t : List UInt8} {ok : Nat → Bool} (hb : ∀ j,j < (linesL t).length → badL t ok j = false) : stopL t ok = none:=by
 unfold stopL
 rw [List.find?_eq_none]
 intro x hx
 rw [hb x (by simpa using hx)]; decide
def eachV : Option Nat → Value
 | none => .tuple #[.int .i64 0,.bool true]
 | some i => .tuple #[.int .i64 i,.bool false]

structure Stays (L : Nat) (bs : List Nat) (w w' : World) : Prop where
  os : w'.os = w.os
  tape : w'.tape = w.tape
  output : w'.output = w.output
  size : w.heap.size ≤ w'.heap.size
  block : ∀ k, k < L → k ∉ bs → w'.heap[k]? = w.heap[k]?
theorem Stays.refl (L : Nat) (bs : List Nat) (w : World) : Stays L bs w w:=⟨rfl,rfl,rfl,Nat.le_refl _,fun _ _ _ => rfl⟩
theorem Stays.trans {L : Nat} {bs : List Nat} {a b c : World} (h : Stays L bs a b) (k : Stays L bs b c) : Stays L bs a c :=
 ⟨k.os.trans h.os,k.tape.trans h.tape,k.output.trans h.output,Nat.le_trans h.size k.size,fun i h1 h2 => (k.block i h1 h2).trans (h.block i h1 h2)⟩
theorem Stays.of_below {L : Nat} {bs : List Nat} {a b : World} {B : Nat} (h : Below B a b) (hB : L ≤ B) : Stays L bs a b :=
 ⟨h.os,h.tape,h.output,h.size,fun k h1 _ => h.block k (by omega)⟩
theorem Stays.weak {L L' : Nat} {bs : List Nat} {a b : World} (h : Stays L bs a b) (hl : L' ≤ L) : Stays L' bs a b :=
 ⟨h.os,h.tape,h.output,h.size,fun k h1 h2 => h.block k (by omega) h2⟩
theorem Stays.below {L B : Nat} {bs : List Nat} {a b : World} (h : Stays L bs a b) (hB : B ≤ L) (hb : ∀ x ∈ bs,B ≤ x) : Below B a b :=
 ⟨h.os,h.tape,h.output,h.size,fun k hk => h.block k (by omega) (fun hm => by have:=hb k hm; omega)⟩
theorem Stays.set {L : Nat} {bs : List Nat} {a b : World} (h : Stays L bs a b) {p : Addr} (hp : p.block ∈ bs ∨ L ≤ p.block) (u : Value) : Stays L bs a (b.setCell p u) :=
 ⟨h.os,h.tape,h.output,by simpa [World.setCell] using h.size,fun k h1 h2 => (Below.heap_setCell b p u k (by rintro rfl; rcases hp with hp | hp; exact h2 hp; omega)).trans (h.block k h1 h2)⟩
theorem Stays.grown {L : Nat} {bs : List Nat} {a b c : World} {row : Option Nat} (h : Stays L bs a b) (hg : b.grownBy c row) (hs : L ≤ b.heap.size) (hr : ∀ k,row = some k → L ≤ k) : Stays L bs a c :=
 ⟨hg.os.trans h.os,hg.tape.trans h.tape,hg.output.trans h.output,Nat.le_trans h.size hg.size,fun k h1 h2 => (hg.block k (by omega) (fun e => by have:=hr k e.symm; omega)).trans (h.block k h1 h2)⟩
theorem Stays.alloc {L : Nat} {bs : List Nat} {a b : World} (h : Stays L bs a b) (hs : L ≤ b.heap.size) (o : Obj) : Stays L bs a (b.alloc o):=h.trans (Stays.of_below ((Below.refl _ _).alloc (Nat.le_refl _) o) hs)
theorem Row.stays {w w' : World} {lo size n : Nat} {A : Option Addr} {xs : List Value} {L : Nat} {bs : List Nat} (h : Row w lo size A n xs) (hx : Stays L bs w w') (hL : w.heap.size ≤ L) (hb : ∀ x ∈ bs,x < lo) : Row w' lo size A n xs :=
 h.keep hx.size fun b h1 h2 => hx.block b (by omega) (fun hm => by have:=hb b hm; omega)
def EachPost (bs : List Nat) (t : List UInt8) (ok : Nat → Bool) (R : Nat → Nat → World → Prop) (w : World) (e : Ending) (w' : World) : Prop :=
 Stays w.heap.size bs w w' ∧ e = .returned (eachV (stopL t ok)) ∧ (stopL t ok = none → ∃ L,w.heap.size ≤ L ∧ R L (linesL t).length w')
def EnvB (B : Nat) (w : World) : Prop:=∀ W,Below B w W → Env W
theorem EnvB.env {B : Nat} {w : World} (h : EnvB B w) : Env w:=h w (Below.refl _ _)
theorem EnvB.below {B : Nat} {w w' : World} (h : EnvB B w) (hb : Below B w w') : EnvB B w':=fun W k => h W (hb.trans k)
theorem EnvB.of {w : World} (h : Env w) : EnvB w.heap.size w:=fun _ hb => h.below hb
theorem EnvB.from {w w' : World} (h : Env w) (hb : Below w.heap.size w w') : EnvB w.heap.size w':=(EnvB.of h).below hb
theorem EnvB.stays {B L : Nat} {bs : List Nat} {w w' : World} (h : EnvB B w) (hx : Stays L bs w w') (hB : B ≤ L) (hb : ∀ x ∈ bs,B ≤ x) : EnvB B w':=h.below (hx.below hB hb)
end Go.Proofs.YtijdbbnnkogkjaaGreatDoor
/- Reading line by line, over the closures of this text: the walks of base.Each and splitref1.Lines. -/
namespace Go.Proofs.YtijdbbnnkogkjaaGreatDoor
set_option linter.unusedVariables false
set_option linter.unusedSimpArgs false
open Go.RowKit Go.Sort

set_option maxHeartbeats 2000000 in
set_option maxRecDepth 100000 in
theorem eachMpP_any (b1 b2 : Nat) (t : List UInt8) (w : World) (B : Nat) (ok : Nat → Bool) (R : Nat → Nat → World → Prop) (ht : t.length ≤ 1000000) (hE : EnvB B w) (hB : B ≤ w.heap.size) (hbs : ∀ x ∈ [b1,b2],B ≤ x ∧ x < w.heap.size)
  (hR : ∀ L W,w.heap.size ≤ L → L ≤ W.heap.size → Below w.heap.size w W → R L 0 W)
  (hRD : ∀ L k W,R L k W → R L k W.drew)
  (H : ∀ (L k : Nat) (W : World) (hk : k < (linesL t).length),w.heap.size ≤ L → L ≤ W.heap.size → EnvB B W → R L k W →
   Calls Tryz.prog 72 #[encStr (linesL t)[k],.pointer (some ⟨b1,0,none⟩),.pointer (some ⟨b2,0,none⟩)] W fun e W' => e = .returned (.bool (ok k)) ∧ Stays L [b1,b2] W W' ∧ (ok k = true → R L (k + 1) W')) :
  Calls Tryz.prog 71 #[encStr t,.func (.func 72) #[] #[.pointer (some ⟨b1,0,none⟩),.pointer (some ⟨b2,0,none⟩)]] w (EachPost [b1,b2] t ok R w):=by
 have hll:=linesL_le t
 have hl1 : (linesL t).length ≤ 1000001:=by omega
 have HX : Hid (∀ x ∈ [b1,b2],B ≤ x ∧ x < w.heap.size):=Lib.hid hbs
 have H:=Lib.hid H
 have hR:=Lib.hid hR
 have HRD:=Lib.hid hRD
 have hE:=Lib.hid hE
 have SB : Hid (∀ (i : Nat) (W : World),Stays w.heap.size [b1,b2] w W → stopL t ok = some i → EachPost [b1,b2] t ok R w (.returned (.tuple #[.int .i64 i,.bool false])) W):=Lib.hid (fun i W h1 h2 => ⟨h1,by rw [h2]; rfl,fun e => by rw [h2] at e; cases e⟩)
 have SG : Hid (∀ (L : Nat) (W : World),Stays w.heap.size [b1,b2] w W → stopL t ok = none → w.heap.size ≤ L → R L (linesL t).length W → EachPost [b1,b2] t ok R w (.returned (.tuple #[.int .i64 0,.bool true])) W):=Lib.hid (fun L W h1 h2 h3 h4 => ⟨h1,by rw [h2]; rfl,fun _ => ⟨L,h3,h4⟩⟩)
 have STOP : Hid (∀ k,k < (linesL t).length → badL t ok k = true → (∀ j,j < k → badL t ok j = false) → stopL t ok = some k):=Lib.hid (fun k h1 h2 h3 => stopL_at h1 h2 h3)
 have NONE : Hid ((∀ j,j < (linesL t).length → badL t ok j = false) → stopL t ok = none):=Lib.hid (fun h => stopL_none h)
 have HBL : Hid (∀ k,badL t ok k = ((!endsB t && decide (k + 1 = (linesL t).length)) || !ok k)):=Lib.hid (fun _ => rfl)
 clear hll hbs hRD
 generalize hP : EachPost [b1,b2] t ok R w = Post at *
 clear hP
 go_enter Tryz.func71,Tryz.ntmps71
 go_wp2_with fail
 refine (lines_any t _ (by omega) hE.out.env).mono ?_
 rintro e w1 ⟨A,c,rfl,hr,hb⟩
 have hE1:=Lib.hid (hE.out.below (Below.mono hb hB))
 have hL1:=hb.size
 have HR0:=Lib.hid (hR.out w1.heap.size w1 hL1 (Nat.le_refl _) hb)
 have HA : Hid (∀ b off,A = some ⟨b,off,none⟩ → 0 < (linesL t).length → b < w1.heap.size):=Lib.hid (fun b off e hp => by
  obtain ⟨b',off',e',_,hl,_⟩:=hr.2 hp
  rw [e] at e'; injection e' with e'; injection e' with e1 e2; omega)
 have HST : Hid (Stays w.heap.size [b1,b2] w w1):=Lib.hid (Stays.of_below hb (Nat.le_refl _))
 generalize hls : linesL t = ls at *
 generalize hen : endsB t = en at *
 clear hb hls hen
 go_wp2_with fail
 go_loopw [17] (fun i wr => ∃ k : Nat,k ≤ ls.length ∧ i = .int .i64 k ∧ Stays w1.heap.size [b1,b2] w1 wr ∧ Hid (EnvB B wr) ∧ Hid (R w1.heap.size k wr) ∧ Hid (∀ j,j < k → badL t ok j = false)) (fun i _ => ls.length - (intOf i).toNat)
 case atStart => exact ⟨0,Nat.zero_le _,rfl,Stays.refl _ _ _,hE1,HR0,Lib.hid (fun _ h => absurd h (Nat.not_lt_zero _))⟩
 case round =>
  obtain ⟨k,hk,rfl,hst,hEr,hRr,hbad⟩:=hrel
  by_cases hlt : k < ls.length
  ·obtain ⟨b,off,rfl,hlo,hbs,hc0⟩:=hr.str_at hlt
   have hbz:=HA.out b off rfl (by omega)
   have hc1 : wr.cell? ⟨b,off + k,none⟩ = some (encStr ls[k]):=(World.cell?_of_block (w:=w1) (hst.block b hbz (fun hm => by have:=(HX.out b hm).2; omega))).trans hc0
   have hbr : b < wr.heap.size:=by have:=hst.size; omega
   have hsz:=hst.size
   have HC:=Lib.hid (H.out w1.heap.size k wr hlt hL1 hsz hEr.out hRr.out)
   clear hc0
   by_cases hq : en = false ∧ k + 1 = ls.length
   ·obtain ⟨he,hq⟩:=hq
    have d1 : ((k : Int) == (ls.length : Int) - 1) = true:=by rw [beq_iff_eq]; omega
    have HB:=Lib.hid (STOP.out k hlt (by rw [HBL.out,he,decide_eq_true hq]; rfl) hbad.out)
    clear hq
    subst he
    go_wp2_with fail
    exact SB.out k _ (HST.out.trans (hst.weak hL1)) HB.out
   ·have HBK : Hid (badL t ok k = !ok k):=Lib.hid (by
     rw [HBL.out]
     have : (!en && decide (k + 1 = ls.length)) = false:=by
      cases en
      ·rw [decide_eq_false (fun e => hq ⟨rfl,e⟩)]; rfl
      ·rfl
     rw [this,Bool.false_or])
    have d1 : en = true ∨ (en = false ∧ ((k : Int) == (ls.length : Int) - 1) = false):=by
     cases en
     ·right; refine ⟨rfl,?_⟩; rw [beq_eq_false_iff_ne]; intro e; exact hq ⟨rfl,by omega⟩
     ·exact .inl rfl
    clear hq
    rcases d1 with rfl | ⟨rfl,d1⟩
    all_goals
     generalize ls[k] = x at *
     go_wp2_with fail
     refine HC.out.mono ?_
     rintro e w2 ⟨rfl,hx,hR'⟩
     cases hok : ok k
     ·have HB:=Lib.hid (STOP.out k hlt (by rw [HBK.out,hok]; rfl) hbad.out)
      clear hok hR'
      go_wp2_with fail
      exact SB.out k _ ((HST.out.trans (hst.weak hL1)).trans (hx.weak hL1)) HB.out
     ·have HB:=Lib.hid (show badL t ok k = false by rw [HBK.out,hok]; rfl)
      have HR2:=Lib.hid (hR' hok)
      clear hok hR'
      go_wp2_with fail
      go_roundw
      case rel =>
       refine ⟨k + 1,by omega,by go_num,hst.trans hx,Lib.hid (hEr.out.stays hx (by omega) (fun y hy => (HX.out y hy).1)),HR2,Lib.hid (fun j hj => ?_)⟩
       rcases Nat.lt_or_ge j k with h | h
       ·exact hbad.out j h
       ·have : j = k:=by omega
        subst this; exact HB.out
      case measure => simp [intOf]; omega
  ·have hkk : k = ls.length:=by omega
   subst hkk
   have HN:=Lib.hid (NONE.out hbad.out)
   go_wp2_with fail
   exact SG.out w1.heap.size _ (HST.out.trans (hst.weak hL1)) HN.out hL1 hRr.out
end Go.Proofs.YtijdbbnnkogkjaaGreatDoor
/- The walk of the stream's function that changes a text. -/
namespace Go.Proofs.YtijdbbnnkogkjaaGreatDoor
set_option linter.unusedVariables false
set_option linter.unusedSimpArgs false
open Go.RowKit Go.Sort

theorem ba_ext {a : ByteArray} {l : List UInt8} (h : a.data.toList = l) : a = ⟨l.toArray⟩:=by
 apply ByteArray.ext
 rw [← h]
theorem extr_toList (t : List UInt8) (a b : Nat) : ((⟨t.toArray⟩ : ByteArray).extract a b).data.toList = (t.take b).drop a:=by
 simp [ByteArray.data_extract,List.extract_eq_take_drop,List.take_drop]
 try (rcases Nat.le_total a b with h | h <;> simp [h] <;> omega)
theorem chg_a (t : List UInt8) (c : UInt8) (i : Nat) : (⟨t.toArray⟩ : ByteArray).extract 0 i ++ ⟨#[c]⟩ ++ (⟨t.toArray⟩ : ByteArray).extract (i + 1) t.length = ⟨(t.take i ++ [c] ++ t.drop (i + 1)).toArray⟩:=by
 apply ba_ext
 rw [ByteArray.data_append,ByteArray.data_append,Array.toList_append,Array.toList_append,extr_toList,extr_toList]
 simp
theorem chg_b (t : List UInt8) (c : UInt8) (i : Nat) : (⟨t.toArray⟩ : ByteArray).extract 0 i ++ ⟨#[c]⟩ ++ (⟨t.toArray⟩ : ByteArray).extract i t.length = ⟨(t.take i ++ [c] ++ t.drop i).toArray⟩:=by
 apply ba_ext
 rw [ByteArray.data_append,ByteArray.data_append,Array.toList_append,Array.toList_append,extr_toList,extr_toList]
 simp
theorem chg_c (t : List UInt8) (i : Nat) : (⟨t.toArray⟩ : ByteArray).extract 0 i ++ (⟨t.toArray⟩ : ByteArray).extract (i + 1) t.length = ⟨(t.take i ++ t.drop (i + 1)).toArray⟩:=by
 apply ba_ext
 rw [ByteArray.data_append,Array.toList_append,extr_toList,extr_toList]
 simp
theorem enc_one (c : UInt8) (h : c.toNat < 128) : Utf8.encode (c.toNat : Int) = ⟨#[c]⟩:=by
 have v : Utf8.valid (c.toNat : Int) = true:=by simp [Utf8.valid]; omega
 simp [Utf8.encode,v,h]
theorem cnt_in {c : UInt8} {ws : List UInt8} (h : c ∈ ws) (b : UInt8) : [c].count b ≤ ws.count b:=by
 by_cases e : c = b
 ·subst e
  have:=List.count_pos_iff.2 h
  simp; omega
 ·rw [List.count_eq_zero.2 (by simp; exact fun h => e h.symm)]; exact Nat.zero_le _
theorem cnt_two (t : List UInt8) (i : Nat) (b : UInt8) : (t.take i).count b + (t.drop i).count b = t.count b:=by
 rw [← List.count_append,List.take_append_drop]
theorem cnt_cut (t : List UInt8) (i : Nat) (b : UInt8) : (t.take i).count b + (t.drop (i + 1)).count b ≤ t.count b:=by
 have h1:=cnt_two t i b
 have h2 : (t.drop (i + 1)).count b ≤ (t.drop i).count b:=by
  rw [← List.drop_drop]
  exact (List.drop_sublist 1 (t.drop i)).count_le b
 omega
set_option maxHeartbeats 2000000 in
set_option maxRecDepth 100000 in
theorem changedC_any (g N : Nat) (t ws : List UInt8) (w : World) (hs : Str w g N) (hN : N < 4611686018427380000) (ht : t.length ≤ 1000000) (hw0 : 0 < ws.length) (hw1 : ws.length ≤ 1000) (hw : ∀ b ∈ ws,b.toNat < 128) :
  Calls Tryz.prog 70 #[.pointer (some ⟨g,0,none⟩),encStr t,encStr ws] w fun e w' => ∃ r : List UInt8,e = .returned (encStr r) ∧ r.length ≤ t.length + ws.length ∧ (∀ b,r.count b ≤ t.count b + ws.count b) ∧ Str w' g (N + 3) ∧ w.grownBy w' (some g):=by
 have HW:=Lib.hid hw
 clear hw
 by_cases h0 : t = []
 ·subst h0
  go_enter Tryz.func70,Tryz.ntmps70
  go_wp2_with fail
  go_returns
  exact ⟨ws,rfl,by simp,fun b => by simp,hs.more (by omega),World.grownBy.refl _ _⟩
 ·have e0:=str_nil_ne h0
  have e1 : ws.isEmpty = false:=by cases ws <;> simp_all
  have tp : 0 < t.length:=by cases t <;> simp_all
  clear h0
  go_enter Tryz.func70,Tryz.ntmps70
  go_wp2_with fail
  refine (next_any g N _ _ hs (by omega) (by omega)).mono ?_
  rintro e w1 ⟨r,rfl,h2,h3,-,hs1,hg1⟩
  have h5:=h3 (by omega)
  clear h3
  obtain ⟨i,rfl⟩:=Int.eq_ofNat_of_zero_le h2
  have hi : i < t.length:=by omega
  clear h2 h5
  go_wp2_with fail
  refine (next_any g (N + 1) _ _ hs1 (by omega) (by omega)).mono ?_
  rintro e w2 ⟨r,rfl,h2,h3,-,hs2,hg2⟩
  have h5:=h3 (by omega)
  clear h3
  obtain ⟨j,rfl⟩:=Int.eq_ofNat_of_zero_le h2
  have hj : j < ws.length:=by omega
  clear h2 h5
  have hc:=HW.out ws[j] (List.getElem_mem _)
  have hjz : j < (⟨ws.toArray⟩ : ByteArray).size:=by show j < ws.toArray.size; rw [List.size_toArray]; exact hj
  have hcx : (⟨ws.toArray⟩ : ByteArray)[j] = ws[j]:=by simp [ByteArray.getElem_eq_getElem_data]
  have hcw : wrap32 (ws[j].toNat : Int) = (ws[j].toNat : Int):=by unfold wrap32; omega
  have hU:=enc_one ws[j] hc
  have hgr:=grown_trans' hg1 hg2
  clear hg1 hg2 hs1 hs
  have hmem : ws[j] ∈ ws:=List.getElem_mem _
  generalize hcc : ws[j] = c at *
  have HCN : Hid (∀ b,[c].count b ≤ ws.count b):=Lib.hid (cnt_in hmem)
  clear hmem
  go_wp2_with fail
  refine (next_any g (N + 2) _ _ hs2 (by omega) (by omega)).mono ?_
  rintro e w3 ⟨r,rfl,h2,h3,-,hs3,hg3⟩
  have h5:=h3 (by omega)
  clear h3
  obtain ⟨k,rfl⟩:=Int.eq_ofNat_of_zero_le h2
  have hgr:=grown_trans' hgr hg3
  clear hg3 hs2 h2
  rcases (show k = 0 ∨ k = 1 ∨ k = 2 by omega) with rfl | rfl | rfl
  ·go_wp2_with fail
   go_region
   go_wp2_with fail
   go_returns
   exact ⟨t.take i ++ [c] ++ t.drop (i + 1),by rw [chg_a t c i]; rfl,by simp; omega,fun b => by have:=HCN.out b; have:=cnt_cut t i b; rw [List.count_append,List.count_append]; omega,(by repeat (first | exact hs3 | refine Str.alloc ?_ _ | refine Str.drewN ?_ _ | refine Str.drew ?_)),(by repeat (first | exact hgr | refine grown_alloc ?_ _ | refine grown_drewN ?_ _ | refine grown_drew ?_))⟩
  ·go_wp2_with fail
   go_region
   go_wp2_with fail
   go_returns
   exact ⟨t.take i ++ [c] ++ t.drop i,by rw [chg_b t c i]; rfl,by simp; omega,fun b => by have:=HCN.out b; have:=cnt_two t i b; rw [List.count_append,List.count_append]; omega,(by repeat (first | exact hs3 | refine Str.alloc ?_ _ | refine Str.drewN ?_ _ | refine Str.drew ?_)),(by repeat (first | exact hgr | refine grown_alloc ?_ _ | refine grown_drewN ?_ _ | refine grown_drew ?_))⟩
  ·go_wp2_with fail
   go_quiet (fail)
   go_wp2_with fail
   go_returns
   exact ⟨t.take i ++ t.drop (i + 1),by rw [chg_c t i]; rfl,by simp; omega,fun b => by have:=cnt_cut t i b; rw [List.count_append]; omega,(by repeat (first | exact hs3 | refine Str.alloc ?_ _ | refine Str.drewN ?_ _ | refine Str.drew ?_)),(by repeat (first | exact hgr | refine grown_alloc ?_ _ | refine grown_drewN ?_ _ | refine grown_drew ?_))⟩
theorem changed_any (g N : Nat) (t ws : List UInt8) (w : World) (hs : Str w g N) (hN : N < 4611686018427380000) (ht : t.length ≤ 1000000) (hw0 : 0 < ws.length) (hw1 : ws.length ≤ 1000) (hw : ∀ b ∈ ws,b.toNat < 128) :
  Calls Tryz.prog 70 #[.pointer (some ⟨g,0,none⟩),encStr t,encStr ws] w fun e w' => ∃ r : List UInt8,e = .returned (encStr r) ∧ r.length ≤ t.length + ws.length ∧ Str w' g (N + 3) ∧ w.grownBy w' (some g) :=
 (changedC_any g N t ws w hs hN ht hw0 hw1 hw).mono fun _ _ ⟨r,h1,h2,_,h4,h5⟩ => ⟨r,h1,h2,h4,h5⟩
end Go.Proofs.YtijdbbnnkogkjaaGreatDoor
